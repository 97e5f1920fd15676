/- Matrix codes: what the modules inside the border are. -/
import Derived.Test.YthkilkjngincpaaMtx4
namespace Go.Proofs.Ythkilkjngincpaa
open Go Go.Lite
set_option linter.unusedVariables false
set_option linter.unusedSimpArgs false
set_option maxRecDepth 100000
set_option maxHeartbeats 4000000

theorem bits_list {l : List Int} {n : Nat} (h : n ≤ l.length) (hb : ∀ i, i < n → 0 ≤ l.getD i 0 ∧ l.getD i 0 ≤ 255) : l.take n = btab n fun k => BitVec.ofInt 8 (l.getD k 0) := by
  refine is_tab 0 (by rw [List.length_take]; omega) fun i hi => ?_
  rw [by8_ofInt (hb i hi)]
  simp [List.getD_eq_getElem?_getD, List.getElem?_take, hi]
theorem bt_by8 {x : BitVec 8} {b : Nat} : bt (by8 x) b = x.getLsbD (7 - b) := by
  unfold bt by8
  rw [Int.toNat_natCast]; rfl
/-- Bits that are those of a word of bytes. -/
theorem bm_word {n : Nat} {W : Nat → BitVec 8} {B : Nat → Bool} (h : ∀ i, i < 8 * n → B i = (W (i / 8)).getLsbD (7 - i % 8)) : bm (8 * n) 1 (fun i _ => B i) = btab n W := by
  refine is_tab 0 (by rw [bm_len]; unfold st; omega) fun i hi => ?_
  have h8 : st (8 * n) = n := by unfold st; omega
  have hi2 : i < st (8 * n) * 1 := by rw [h8]; omega
  rw [bm_get hi2]
  refine byte_ext (bmB_bd _ _ _) (by8_bd _) fun b hb => ?_
  rw [bmB_bit hb, bt_by8, h8, Nat.mod_eq_of_lt hi, decide_eq_true (by omega), Bool.true_and, h _ (by omega)]
  rw [show (8 * i + b) / 8 = i by omega, show (8 * i + b) % 8 = b by omega]
/-- The modules inside the border of a code are the bits of its word. -/
theorem mIn_mod {s : Nat} {W : Nat → BitVec 8} (hs : 8 ≤ s) {k : Nat} (hk : k < 8 * mAll s) : mIn s (mMod s W) k = (W (k / 8)).getLsbD (7 - k % 8) := by
  have h1 : k < (s - 2) * (s - 2) := by unfold mAll at hk; omega
  have h2 : k % (s - 2) < s - 2 := Nat.mod_lt _ (by omega)
  have h3 : k / (s - 2) < s - 2 := Nat.div_lt_of_lt_mul h1
  have key : ∀ u v : Nat, u < s - 2 → v < s - 2 → mBord s (1 + u) (1 + v) = false ∧ 1 + v - 1 = v ∧ 1 + u - 1 = u := fun u v hu hv => ⟨mBord_iff.2 (by omega), by omega, by omega⟩
  obtain ⟨hB, p1, p2⟩ := key _ _ h2 h3
  unfold mIn mMod
  rw [hB, if_neg (by simp), p1, p2, Nat.mul_comm, Nat.div_add_mod]
  unfold mBit
  rw [decide_eq_true hk, Bool.true_and]
theorem mod_word {s : Nat} {W : Nat → BitVec 8} (hs : 8 ≤ s) : bm (8 * mAll s) 1 (fun i _ => mIn s (mMod s W) i) = btab (mAll s) W := bm_word fun _ hi => mIn_mod hs hi
theorem mWord_ok {s m : Nat} {g : Nat → BitVec 8} (hs : Side s) : ∀ i, i < mPar s → hor (rt i) (mWord s m g) (mAll s) = 0#8 := fun i hi => by
  have := word_ok (w := rt) (t := mPar s) (n := mAll s - mPar s) (f := mPlain m g) hi
  have sf := Side.facts hs
  rw [show mAll s - mPar s + mPar s = mAll s by omega] at this
  exact this
theorem mWord_plain {s m : Nat} {g : Nat → BitVec 8} {i : Nat} (hi : i < mAll s - mPar s) : mWord s m g i = mPlain m g i := by
  unfold mWord word; rw [if_pos hi]
end Go.Proofs.Ythkilkjngincpaa
