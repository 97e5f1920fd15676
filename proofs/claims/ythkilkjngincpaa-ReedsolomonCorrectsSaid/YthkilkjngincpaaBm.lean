/- Bitmaps by their pixels: plain laws. -/
import Derived.Test.YthkilkjngincpaaRs1
namespace Go.Proofs.Ythkilkjngincpaa
open Go Go.Lite
set_option linter.unusedVariables false
set_option linter.unusedSimpArgs false
set_option maxRecDepth 100000
set_option maxHeartbeats 4000000

/-- Pixel b, from the left, of a byte. -/
def bt (v : Int) (b : Nat) : Bool := v.toNat.testBit (7 - b)
/-- Bytes of a row of w pixels. -/
def st (w : Nat) : Nat := (w + 7) / 8
/-- A bitmap as it should be. -/
structure BmOk (w h : Nat) (d : List Int) : Prop where
  w1 : 1 ≤ w ∧ w ≤ 1024
  h1 : 1 ≤ h ∧ h ≤ 1024
  len : d.length = st w * h
  byte : ∀ i, i < d.length → 0 ≤ d.getD i 0 ∧ d.getD i 0 ≤ 255
  clear : ∀ y b, y < h → b < 8 → w ≤ 8 * (st w - 1) + b → bt (d.getD (y * st w + (st w - 1)) 0) b = false
open Classical in
noncomputable def bitsE (W H : Int) (d : List Int) : Int := if W < 1 ∨ 1024 < W ∨ H < 1 ∨ 1024 < H then 3 else if d.length ≠ st W.toNat * H.toNat then 4 else
  if ∀ y b, y < H.toNat → b < 8 → W.toNat ≤ 8 * (st W.toNat - 1) + b → bt (d.getD (y * st W.toNat + (st W.toNat - 1)) 0) b = false then 0 else 4
end Go.Proofs.Ythkilkjngincpaa
