/- Matrix codes: what the modules inside the border are. -/
import Derived.Test.YthkilkjngincpaaMtx4
namespace Go.Proofs.Ythkilkjngincpaa
open Go Go.Lite
set_option linter.unusedVariables false
set_option linter.unusedSimpArgs false
set_option maxRecDepth 100000
set_option maxHeartbeats 4000000

theorem bits_list {l : List Int} {n : Nat} (h : n ≤ l.length) (hb : ∀ i, i < n → 0 ≤ l.getD i 0 ∧ l.getD i 0 ≤ 255) : l.take n = btab n fun k => BitVec.ofInt 8 (l.getD k 0) := by
  refine is_tab 0 (by rw [List.length_take]; omega) fun i hi => ?_
  rw [by8_ofInt (hb i hi)]
  simp [List.getD_eq_getElem?_getD, List.getElem?_take, hi]
theorem bt_by8 {x : BitVec 8} {b : Nat} : bt (by8 x) b = x.getLsbD (7 - b) := by
  unfold bt by8
  rw [Int.toNat_natCast]; rfl
/-- The modules inside the border of a code are the bits of its word. -/
theorem mIn_mod {s : Nat} {W : Nat → BitVec 8} (hs : 8 ≤ s) {k : Nat} (hk : k < 8 * mAll s) : mIn s (mMod s W) k = (W (k / 8)).getLsbD (7 - k % 8) := by
  have h1 : k < (s - 2) * (s - 2) := by unfold mAll at hk; omega
  have h2 : k % (s - 2) < s - 2 := Nat.mod_lt _ (by omega)
  have h3 : k / (s - 2) < s - 2 := Nat.div_lt_of_lt_mul h1
  have key : ∀ u v : Nat, u < s - 2 → v < s - 2 → mBord s (1 + u) (1 + v) = false ∧ 1 + v - 1 = v ∧ 1 + u - 1 = u := fun u v hu hv => ⟨mBord_iff.2 (by omega), by omega, by omega⟩
  obtain ⟨hB, p1, p2⟩ := key _ _ h2 h3
  unfold mIn mMod
  rw [hB, if_neg (by simp), p1, p2, Nat.mul_comm, Nat.div_add_mod]
  unfold mBit
  rw [decide_eq_true hk, Bool.true_and]
theorem mWord_ok {s m : Nat} {g : Nat → BitVec 8} (hs : Side s) : ∀ i, i < mPar s → hor (rt i) (mWord s m g) (mAll s) = 0#8 := fun i hi => by
  have := word_ok (w := rt) (t := mPar s) (n := mAll s - mPar s) (f := mPlain m g) hi
  have sf := Side.facts hs
  rw [show mAll s - mPar s + mPar s = mAll s by omega] at this
  exact this
theorem mWord_plain {s m : Nat} {g : Nat → BitVec 8} {i : Nat} (hi : i < mAll s - mPar s) : mWord s m g i = mPlain m g i := by
  unfold mWord word; rw [if_pos hi]
end Go.Proofs.Ythkilkjngincpaa
