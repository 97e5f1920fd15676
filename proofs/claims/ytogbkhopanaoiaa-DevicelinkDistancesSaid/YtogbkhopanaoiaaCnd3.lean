/- Conditions are checked. -/
import Derived.Test.YtogbkhopanaoiaaCnd2
import Derived.Test.YtogbkhopanaoiaaGo
namespace Go.Proofs.Ytogbkhopanaoiaa
open Go Go.Lite
set_option linter.unusedVariables false
set_option linter.unusedSimpArgs false
set_option maxRecDepth 100000
set_option maxHeartbeats 4000000
-- @simp rdi rd2i

structure Cnd where
  inks : List ByteArray
  pr : List Int
  li : List Int
  ga : Int
  gb : Int
  gc : Int
  gv : List Int
  ra : Int
  rb : Int
  rc : Int
  rv : List Int
  sp : List Sp
  tot : Int
/-- What the reader of a law's argument knows. -/
structure CndW (c : Cnd) : Prop where
  inks : c.inks.length ≤ 9223372036854775807
  inks' : ∀ y ∈ c.inks, Ws y
  pr : c.pr.length ≤ 9223372036854775807
  li : c.li.length ≤ 9223372036854775807
  gv : c.gv.length ≤ 9223372036854775807
  rv : c.rv.length ≤ 9223372036854775807
  sp : c.sp.length ≤ 9223372036854775807
  sp' : ∀ y ∈ c.sp, Ws6iL2iJLiJ y
structure CndOk (c : Cnd) : Prop where
  n : 1 ≤ c.inks.length ∧ c.inks.length ≤ 8
  nm : namesE c.inks = 0
  pr : c.pr.length = 0 ∨ c.pr.length = 4
  li : c.li.length = c.inks.length
  dp : dsE c.pr c.inks.length = 0
  gt : tbE c.ga c.gb c.gc c.gv 1 c.inks.length = 0
  rt : tbE c.ra c.rb c.rc c.rv 3 c.inks.length = 0
  sp : libOk c.sp
  sp4 : ∀ i, i < c.sp.length → (c.sp.getD i dS).2.2.2.2.2.2.2.2.length = 4 ∧ c.pr.length = 4
  tot : 0 ≤ c.tot ∧ c.tot ≤ 2040
end Go.Proofs.Ytogbkhopanaoiaa
