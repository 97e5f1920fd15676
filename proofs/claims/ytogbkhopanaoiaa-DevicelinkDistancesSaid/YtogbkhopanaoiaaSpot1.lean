/- Spot inks: names, one ink, a tint. -/
import Derived.Test.YtogbkhopanaoiaaCurve1
import Derived.Test.YtogbkhopanaoiaaCurve3
import Derived.Test.YtogbkhopanaoiaaTones
import Derived.Test.YtogbkhopanaoiaaXDevicelinkDistances0
import Derived.Test.YtogbkhopanaoiaaGo
namespace Go.Proofs.Ytogbkhopanaoiaa
open Go Go.Lite
set_option linter.unusedVariables false
set_option linter.unusedSimpArgs false
set_option maxRecDepth 100000
set_option maxHeartbeats 4000000
-- @simp rdi rd2i

def nameCh (x : Int) : Prop := (97 ≤ x ∧ x ≤ 122) ∨ (48 ≤ x ∧ x ≤ 57) ∨ x = 45
def nameOk (s : ByteArray) : Prop := 1 ≤ s.size ∧ s.size ≤ 16 ∧ (97 ≤ sat s 0 ∧ sat s 0 ≤ 122) ∧ ∀ j, j < s.size → nameCh (sat s j)
open Classical in
noncomputable def isName (s : ByteArray) : Bool := decide (nameOk s)
theorem isName_c (s : ByteArray) (hs : Due (s.size ≤ 9223372036854775807)) : TC R Try.prog profile_IsName_f [.str s] [] (fun v X => v = .bool (isName s) ∧ X = []) := by
  dsimp only [Due] at hs
  have yes : nameOk s → true = isName s := fun h => by unfold isName; simp [h]
  have no : ¬ nameOk s → false = isName s := fun h => by unfold isName; simp [h]
  refine tc0 env profile_IsName_s (by rfl) ?_
  dsimp only [profile_IsName_c]
  by_cases hh : 1 ≤ s.size ∧ s.size ≤ 16 ∧ (97 ≤ sat s 0 ∧ sat s 0 ≤ 122)
  · repeat' (first
      | refine GZp_i_2i ?_ ?_ ?_ ?_ ?_ ?_ ?_ ?_
      | with_reducible first | exact BzZq.mk | refine Tw.ret ?_ | refine ImZq.i fun h => ?_ | refine IkZq.i fun hk => ?_)
    refine Tw.loopK [0, 24] (fun i : Nat => i ≤ s.size ∧ ∀ j, j < i → nameCh (sat s j)) (fun i => s.size - i) (fun i => [(25, .int .i64 i)]) (fun _ => []) ⟨0, ⟨by omega, fun j hj => by omega⟩, TWk.fcanon env [] (by rfl) ?_⟩ (fun i hi => ?_)
    · repeat' (first
        | with_reducible first | exact Conj.nil | refine Conj.cons rfl ?_ | refine Conj.same ?_ | refine Conj.ask ?_ ?_
        | ((with_reducible refine Due.mk ?_); (first | with_reducible rfl | omega | assumption | decide | ((try simp only [goS] at *) <;> (try intro h) <;> (try intro h') <;> (try simp only [goS] at *) <;> (try simp only [rdi, rd2i, Int.toNat_natCast, Nat.add_zero] at *) <;> (try simp only [rng]) <;> (first | assumption | omega)) | (exact due_app0 (by omega)) | (exact due_app (by omega)) | (intros; simp; done) | (intros; simp; omega)))
        | with_reducible refine Due.mk ?_
        | omega)
    repeat' (first
      | refine GZp_i_2i ?_ ?_ ?_ ?_ ?_ ?_ ?_ ?_
      | with_reducible first | exact BzZq.mk | refine Tw.ret ?_ | refine ImZq.i fun h => ?_ | refine IkZq.i fun hk => ?_)
    · refine ⟨rfl, congrArg TV.bool (no fun hk => ?_), rfl⟩
      have := hk.2.2.2 i (by omega)
      unfold nameCh at this
      omega
    · refine ⟨i + 1, ⟨by omega, fun j hj => ?_⟩, by omega, TWk.fcanon env [] (by rfl) ?_⟩
      · by_cases e : j = i
        · subst e; unfold nameCh; omega
        · exact hi.2 j (by omega)
      · repeat' (first
          | refine GZ_i_2i ?_ ?_ ?_ ?_ ?_ ?_ ?_ ?_
          | with_reducible first | exact BzZq.mk | refine Tw.ret ?_ | refine ImZq.i fun h => ?_ | refine IkZq.i fun hk => ?_)
    · exact ⟨rfl, congrArg TV.bool (yes ⟨hh.1, hh.2.1, hh.2.2, fun j hj => hi.2 j (by omega)⟩), rfl⟩
  · have hn : false = isName s := no fun hk => hh ⟨hk.1, hk.2.1, hk.2.2.1⟩
    repeat' (first
      | refine GZp_i_2i ?_ ?_ ?_ ?_ ?_ ?_ ?_ ?_
      | with_reducible first | exact BzZq.mk | refine Tw.ret ?_ | refine ImZq.i fun h => ?_ | refine IkZq.i fun hk => ?_)
    exact ⟨rfl, congrArg TV.bool hn, rfl⟩

abbrev Sp := ByteArray × Int × Int × Int × Int × Int × Int × List (Int × Int) × List Int
noncomputable def spE (n : ByteArray) (p q r a b c : Int) (l : List (Int × Int)) (t : List Int) : Int := if isName n then if labE p q r = 0 then if labE a b c = 0 then if check l = 0 then if 8 < t.length then 2 else tonesE t t.length else check l else labE a b c else labE p q r else 6
end Go.Proofs.Ytogbkhopanaoiaa
