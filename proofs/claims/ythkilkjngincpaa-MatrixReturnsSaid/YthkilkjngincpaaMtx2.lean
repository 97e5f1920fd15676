/- Matrix codes: Encode. -/
import Derived.Test.YthkilkjngincpaaRs2
import Derived.Test.YthkilkjngincpaaBits1
import Derived.Test.YthkilkjngincpaaBits2
import Derived.Test.YthkilkjngincpaaGo
namespace Go.Proofs.Ythkilkjngincpaa
open Go Go.Lite
set_option linter.unusedVariables false
set_option linter.unusedSimpArgs false
set_option maxRecDepth 100000
set_option maxHeartbeats 4000000
-- @simp rdi rdy

def mBit (s : Nat) (W : Nat → BitVec 8) (k : Nat) : Bool := decide (k < 8 * mAll s) && (W (k / 8)).getLsbD (7 - k % 8)
/-- A module of the code whose word is W. -/
def mMod (s : Nat) (W : Nat → BitVec 8) (x y : Nat) : Bool := if mBord s x y then mDark s x y else mBit s W ((y - 1) * (s - 2) + (x - 1))
/-- Modules inside the border ahead of a place. -/
def mCnt (s x y : Nat) : Nat := (min (y - 1) (s - 2)) * (s - 2) + (if 1 ≤ y ∧ y ≤ s - 2 then min (x - 1) (s - 2) else 0)
theorem mBord_iff {s x y : Nat} : mBord s x y = false ↔ x ≠ 0 ∧ y ≠ s - 1 ∧ y ≠ 0 ∧ x ≠ s - 1 := by
  unfold mBord
  simp only [Bool.or_eq_false_iff, beq_eq_false_iff_ne]
  constructor
  · rintro ⟨⟨⟨a, b⟩, c⟩, d⟩; exact ⟨a, b, c, d⟩
  · rintro ⟨a, b, c, d⟩; exact ⟨⟨⟨a, b⟩, c⟩, d⟩
theorem mCnt_in {s x y : Nat} (hs : 8 ≤ s) (hx : x < s) (hy : y < s) (h : mBord s x y = false) : mCnt s x y = (y - 1) * (s - 2) + (x - 1) ∧ mCnt s (x + 1) y = mCnt s x y + 1 := by
  obtain ⟨h1, h2, h3, h4⟩ := mBord_iff.1 h
  have m1 : min (y - 1) (s - 2) = y - 1 := by omega
  unfold mCnt
  rw [m1, if_pos (by omega), if_pos (by omega)]
  omega
theorem mCnt_out {s x y : Nat} (hs : 8 ≤ s) (hx : x < s) (hy : y < s) (h : mBord s x y = true) : mCnt s (x + 1) y = mCnt s x y := by
  have h1 : ¬ (x ≠ 0 ∧ y ≠ s - 1 ∧ y ≠ 0 ∧ x ≠ s - 1) := fun k => by rw [mBord_iff.2 k] at h; cases h
  unfold mCnt
  by_cases hh : 1 ≤ y ∧ y ≤ s - 2
  · rw [if_pos hh, if_pos hh]; omega
  · rw [if_neg hh, if_neg hh]
theorem mCnt_row {s y : Nat} (hs : 8 ≤ s) (hy : y < s) : mCnt s 0 (y + 1) = mCnt s s y := by
  unfold mCnt
  by_cases h0 : y = 0
  · subst h0
    rw [if_neg (show ¬ (1 ≤ 0 ∧ 0 ≤ s - 2) by omega)]
    have e1 : min (0 + 1 - 1) (s - 2) = 0 := by omega
    have e2 : min (0 - 1) (s - 2) = 0 := by omega
    rw [e1]
    try rw [e2]
    split <;> omega
  · have e1 : min (0 - 1) (s - 2) = 0 := by omega
    rw [e1]
    by_cases h1 : y ≤ s - 2
    · obtain ⟨z, rfl⟩ : ∃ z, y = z + 1 := ⟨y - 1, by omega⟩
      have e2 : min (z + 1 + 1 - 1) (s - 2) * (s - 2) = z * (s - 2) + (s - 2) := by
        by_cases hz : z + 1 ≤ s - 2
        · rw [show min (z + 1 + 1 - 1) (s - 2) = z + 1 by omega, Nat.add_mul, Nat.one_mul]
        · omega
      have e3 : min (z + 1 - 1) (s - 2) = z := by omega
      have e4 : min (s - 1) (s - 2) = s - 2 := by omega
      rw [if_pos (show 1 ≤ z + 1 ∧ z + 1 ≤ s - 2 by omega), e2, e3, e4]
      split <;> omega
    · have e2 : min (y + 1 - 1) (s - 2) = s - 2 := by omega
      have e3 : min (y - 1) (s - 2) = s - 2 := by omega
      rw [if_neg (by omega), if_neg (by omega), e2, e3]
theorem mCnt_bd {s x y : Nat} (hs : 8 ≤ s ∧ s ≤ 32) : mCnt s x y ≤ 960 := by
  have h1 : min (y - 1) (s - 2) * (s - 2) ≤ 30 * 30 := Nat.mul_le_mul (by omega) (by omega)
  unfold mCnt
  split <;> omega
theorem mCnt_zero {s : Nat} (hs : 8 ≤ s ∧ s ≤ 32) : mCnt s 0 0 = 0 := by
  unfold mCnt
  rw [if_neg (by omega), show min (0 - 1) (s - 2) = 0 by omega, Nat.zero_mul]
theorem bit8 : ∀ (x : BitVec 8) (r : Fin 8), (band (by8 x / 2 ^ r.1) 1 = 1) = (x.getLsbD r.1 = true) := by
  have key : ∀ (x : BitVec 8) (r : Fin 8), decide (band (by8 x / 2 ^ r.1) 1 = 1) = x.getLsbD r.1 := by decide +kernel
  intro x r
  have := key x r
  rw [← this]; simp
/-- The plain bytes of a code. -/
def mPlain (m : Nat) (g : Nat → BitVec 8) (i : Nat) : BitVec 8 := if i = 0 then BitVec.ofNat 8 m else if i ≤ m then g (i - 1) else 0#8
def mWord (s m : Nat) (g : Nat → BitVec 8) : Nat → BitVec 8 := word rt (mPar s) (mAll s - mPar s) (mPlain m g)
theorem mRow0 (m A P : Nat) (g : Nat → BitVec 8) (hm : m + P + 1 ≤ A) (hA : A ≤ 112) : cut (List.take (Int.toNat 1 + 0) ((List.replicate ((A : Int) - (P : Int)).toNat (0 : Int)).set (Int.toNat 0 + 0) (((btab m g).length : Int) % 256)) ++ List.take ((btab m g).length.min (((A : Int) - (P : Int)).toNat - Int.toNat 1)) (btab m g) ++ List.drop (Int.toNat 1 + 0 + (btab m g).length.min (((A : Int) - (P : Int)).toNat - Int.toNat 1)) ((List.replicate ((A : Int) - (P : Int)).toNat (0 : Int)).set (Int.toNat 0 + 0) (((btab m g).length : Int) % 256))) 0 ((A : Int) - (P : Int)).toNat = btab (A - P) (mPlain m g) := by
  have gl : (btab m g).length = m := btab_len
  have pA : ((A : Int) - (P : Int)).toNat = A - P := by omega
  have n1 : m.min ((A - P) - 1) = m := Nat.min_eq_left (by omega)
  rw [pA, gl, show (A - P - Int.toNat 1) = A - P - 1 from rfl, n1]
  refine is_tab 0 ?_ fun i hi => ?_
  · simp [cut, btab_len]; omega
  · rw [cut_all (by simp [btab_len]; omega)]
    have l1 : (List.take (Int.toNat 1 + 0) ((List.replicate (A - P) (0 : Int)).set (Int.toNat 0 + 0) ((m : Int) % 256))).length = 1 := by simp; omega
    have l2 : (List.take m (btab m g)).length = m := by simp [btab_len]
    unfold mPlain
    by_cases h0 : i = 0
    · subst h0
      rw [if_pos rfl, getD_app1 (by rw [List.length_append, l1]; omega), getD_app1 (by rw [l1]; omega)]
      rw [List.getD_eq_getElem?_getD, List.getElem?_take, if_pos (by decide), ← List.getD_eq_getElem?_getD, show Int.toNat 0 + 0 = 0 from rfl, getD_set_eq (by rw [List.length_replicate]; omega)]
      unfold by8
      rw [BitVec.toNat_ofNat]; omega
    · rw [if_neg h0]
      by_cases h1 : i ≤ m
      · rw [if_pos h1, getD_app1 (by rw [List.length_append, l1, l2]; omega), getD_app2 (by rw [l1]; omega), l1, List.getD_eq_getElem?_getD, List.getElem?_take, if_pos (by omega), ← List.getD_eq_getElem?_getD, btab_get (by omega)]
      · rw [if_neg h1, getD_app2 (by rw [List.length_append, l1, l2]; omega), List.length_append, l1, l2]
        rw [List.getD_eq_getElem?_getD, List.getElem?_drop, ← List.getD_eq_getElem?_getD, show Int.toNat 1 + 0 + m + (i - (1 + m)) = i by simp; omega, getD_set_ne (by simp; omega), getD_repl (by omega)]
        rfl
theorem mRow1 (m A P : Nat) (g : Nat → BitVec 8) (hm : m + P + 1 ≤ A) : ((A : Int) - (P : Int)).toNat ≤ (List.take (Int.toNat 1 + 0) ((List.replicate ((A : Int) - (P : Int)).toNat (0 : Int)).set (Int.toNat 0 + 0) (((btab m g).length : Int) % 256)) ++ List.take ((btab m g).length.min (((A : Int) - (P : Int)).toNat - Int.toNat 1)) (btab m g) ++ List.drop (Int.toNat 1 + 0 + (btab m g).length.min (((A : Int) - (P : Int)).toNat - Int.toNat 1)) ((List.replicate ((A : Int) - (P : Int)).toNat (0 : Int)).set (Int.toNat 0 + 0) (((btab m g).length : Int) % 256))).length := by
  have gl : (btab m g).length = m := btab_len
  have pA : ((A : Int) - (P : Int)).toNat = A - P := by omega
  have n1 : m.min ((A - P) - 1) = m := Nat.min_eq_left (by omega)
  rw [pA, gl, show (A - P - Int.toNat 1) = A - P - 1 from rfl, n1]
  simp [btab_len]; omega
theorem mEncode_c (s m : Nat) (g : Nat → BitVec 8) (hs : Due (Side s)) (hm : Due (m + mPar s + 1 ≤ mAll s)) :
    TC R Try.prog matrix_Encode_f [.lst Ey (btab m g), .int .i64 s] [] (fun v X => v = .tup [.agg [.int .i64 s, .int .i64 s, .lst Ey (bm s s (mMod s (mWord s m g)))], .int .i64 0] ∧ X = []) := by
  have sc := size_c s hs
  have sf := Side.facts hs
  have hb := hs.bd
  dsimp only [Due] at hs hm
  obtain ⟨A, hA⟩ : ∃ A, A = mAll s := ⟨_, rfl⟩
  obtain ⟨P, hP⟩ : ∃ P, P = mPar s := ⟨_, rfl⟩
  have gl : (btab m g).length = m := btab_len
  have ec := encode_c (mPlain m g) (A - P) P (by unfold Due; omega)
  have eW : word rt P (A - P) (mPlain m g) = mWord s m g := by unfold mWord; rw [hA, hP]
  rw [eW, show A - P + P = A by omega] at ec
  have bc := blank_c s s (by unfold Due; omega) (by unfold Due; omega)
  rw [bm_congr (g := upto (mMod s (mWord s m g)) 0 0) fun x y _ _ => upto_none.symm] at bc
  generalize mWord s m g = W at *
  rw [← hA, ← hP] at sf sc
  have pA : ((A : Int) - (P : Int)).toNat = A - P := by omega
  refine tc0 env matrix_Encode_s (by rfl) ?_
  dsimp only [matrix_Encode_c]
  have rl := mRow1 m A P g (by omega)
  rw [← mRow0 m A P g (by omega) (by omega)] at ec
  repeat' (first
    | ((with_reducible refine TOps.any ?_); refine TOps.callV env (by rfl) (by rfl) (by rfl) (sc) ?_)
    | refine GZy_i_y gl ?_ ?_ ?_ ?_ ?_ ?_ ?_ ?_
    | with_reducible first | exact BzZq.mk | refine Tw.ret ?_ | refine ImZq.i fun h => ?_ | refine IkZq.i fun hk => ?_)
  refine TOps.frz env 1 (by rfl) (by rfl) (by rfl) ?_ ?_ ?_
  · repeat' (first
      | exact rl
      | with_reducible first | exact Conj.nil | refine Conj.cons rfl ?_ | refine Conj.same ?_ | refine Conj.ask ?_ ?_
      | ((with_reducible refine Due.mk ?_); (first | with_reducible rfl | omega | assumption | decide | ((try simp only [goS] at *) <;> (try intro h) <;> (try intro h') <;> (try simp only [goS] at *) <;> (try simp only [rdi, rdy, Int.toNat_natCast, Nat.add_zero] at *) <;> (try simp only [rng]) <;> (first | assumption | omega)) | (exact due_app0 (by omega)) | (exact due_app (by omega)) | (intros; simp; done) | (intros; simp; omega)))
      | with_reducible refine Due.mk ?_
      | omega)
  · repeat' (first
      | exact rl
      | with_reducible first | exact Conj.nil | refine Conj.cons rfl ?_ | refine Conj.same ?_ | refine Conj.ask ?_ ?_
      | ((with_reducible refine Due.mk ?_); (first | with_reducible rfl | omega | assumption | decide | ((try simp only [goS] at *) <;> (try intro h) <;> (try intro h') <;> (try simp only [goS] at *) <;> (try simp only [rdi, rdy, Int.toNat_natCast, Nat.add_zero] at *) <;> (try simp only [rng]) <;> (first | assumption | omega)) | (exact due_app0 (by omega)) | (exact due_app (by omega)) | (intros; simp; done) | (intros; simp; omega)))
      | with_reducible refine Due.mk ?_
      | omega)
  repeat' (first
    | ((with_reducible refine TOps.any ?_); refine TOps.callV env (by rfl) (by rfl) (by rfl) (ec) ?_)
    | ((with_reducible refine TOps.any ?_); refine TOps.callV env (by rfl) (by rfl) (by rfl) (bc) ?_)
    | refine GZp_i_y ?_ ?_ ?_ ?_ ?_ ?_ ?_ ?_
    | with_reducible first | exact BzZq.mk | refine Tw.ret ?_ | refine ImZq.i fun h => ?_ | refine IkZq.i fun hk => ?_)
  have wl : (btab A W).length = A := btab_len
  refine Tw.loopK [1, 6, 11, 60] (fun y : Nat => y ≤ s) (fun y => s - y) (fun y => [(61, .int .i64 y), (13, .int .i64 (mCnt s 0 y : Nat)), (4, .ptr 0 0), (12, .ptr 2 0)])
    (fun y => [some (.cells [.int .i64 0, .int .i64 0, .nils]), some (.arr Ey (bm s s (upto (mMod s W) 0 y))), some (.cells [.int .i64 s, .int .i64 s, .sla 1 1 0 (st s * s)])]) ⟨0, by omega, TWk.fcanon env [some 0, some 2, some 3] (by rfl) ?_⟩ (fun y hy => ?_)
  · have z := congrArg (fun n : Nat => (n : Int)) (mCnt_zero hb)
    repeat' (first
      | exact z.symm
      | exact z
      | with_reducible first | exact Conj.nil | refine Conj.cons rfl ?_ | refine Conj.same ?_ | refine Conj.ask ?_ ?_
      | ((with_reducible refine Due.mk ?_); (first | with_reducible rfl | omega | assumption | decide | ((try simp only [goS] at *) <;> (try intro h) <;> (try intro h') <;> (try simp only [goS] at *) <;> (try simp only [rdi, rdy, Int.toNat_natCast, Nat.add_zero] at *) <;> (try simp only [rng]) <;> (first | assumption | omega)) | (exact due_app0 (by omega)) | (exact due_app (by omega)) | (intros; simp; done) | (intros; simp; omega)))
      | with_reducible refine Due.mk ?_
      | omega)
  rcases Nat.lt_or_ge y s with hy | hy
  · repeat' (first
      | refine GZp_i_y ?_ ?_ ?_ ?_ ?_ ?_ ?_ ?_
      | with_reducible first | exact BzZq.mk | refine Tw.ret ?_ | refine ImZq.i fun h => ?_ | refine IkZq.i fun hk => ?_)
    refine Tw.loopK [1, 6, 11, 60, 61, 4, 12, 14, 64] (fun x : Nat => x ≤ s) (fun x => s - x) (fun x => [(65, .int .i64 x), (13, .int .i64 (mCnt s x y : Nat))])
      (fun x => [some (.cells [.int .i64 0, .int .i64 0, .nils]), some (.arr Ey (bm s s (upto (mMod s W) x y))), some (.cells [.int .i64 s, .int .i64 s, .sla 1 1 0 (st s * s)])]) ⟨0, by omega, TWk.fcanon env [some 0, some 1, some 2] (by rfl) ?_⟩ (fun x hx => ?_)
    · repeat' (first
        | with_reducible first | exact Conj.nil | refine Conj.cons rfl ?_ | refine Conj.same ?_ | refine Conj.ask ?_ ?_
        | ((with_reducible refine Due.mk ?_); (first | with_reducible rfl | omega | assumption | decide | ((try simp only [goS] at *) <;> (try intro h) <;> (try intro h') <;> (try simp only [goS] at *) <;> (try simp only [rdi, rdy, Int.toNat_natCast, Nat.add_zero] at *) <;> (try simp only [rng]) <;> (first | assumption | omega)) | (exact due_app0 (by omega)) | (exact due_app (by omega)) | (intros; simp; done) | (intros; simp; omega)))
        | with_reducible refine Due.mk ?_
        | omega)
    rcases Nat.lt_or_ge x s with hx | hx
    · have dc := dark_c s x y (by unfold Due; omega) hx hy
      have hbd := bm_bd (w := s) (h := s) (f := upto (mMod s W) x y) (at8_lt hx hy)
      have hbl := bm_len (w := s) (h := s) (f := upto (mMod s W) x y)
      have hmk := bm_mark (f := upto (mMod s W) x y) hx hy
      have mc := mark_c s s (bm s s (upto (mMod s W) x y)) x y (by unfold Due; omega) (by unfold Due; omega) hbl hbd hx hy
      rw [hmk] at mc
      have cb := mCnt_bd (s := s) (x := x) (y := y) hb
      have em : mMod s W x y = if mBord s x y then mDark s x y else mBit s W ((y - 1) * (s - 2) + (x - 1)) := rfl
      cases hB : mBord s x y with
      | true =>
        rw [hB, if_pos rfl] at em
        rw [hB] at dc
        have cn := mCnt_out (s := s) (by omega) hx hy hB
        cases hD : mDark s x y with
        | true =>
          rw [hD] at em dc
          rw [bm_congr (f := fun i j => upto (mMod s W) x y i j || (decide (i = x) && decide (j = y))) fun i j _ _ => upto_yes em i j] at mc
          repeat' (first
            | ((with_reducible refine TOps.any ?_); refine TOps.callV env (by rfl) (by rfl) (by rfl) (dc) ?_)
            | ((with_reducible refine TOps.any ?_); refine TOps.callHE env [2, 1] (mc) (by rfl) (by rfl) (by rfl) (by rfl) (by rfl) (by rfl) (by repeat' (first | exact trivial | refine ⟨rfl, ?_⟩)) ?_)
            | refine GZp_i_y ?_ ?_ ?_ ?_ ?_ ?_ ?_ ?_
            | with_reducible first | exact BzZq.mk | refine Tw.ret ?_ | refine ImZq.i fun h => ?_ | refine IkZq.i fun hk => ?_)
          refine ⟨x + 1, by omega, by omega, TWk.fcanon env [some 0, some 1, some 2] (by rfl) ?_⟩
          repeat' (first
            | exact congrArg (fun n : Nat => (n : Int)) cn
            | with_reducible first | exact Conj.nil | refine Conj.cons rfl ?_ | refine Conj.same ?_ | refine Conj.ask ?_ ?_
            | ((with_reducible refine Due.mk ?_); (first | with_reducible rfl | omega | assumption | decide | ((try simp only [goS] at *) <;> (try intro h) <;> (try intro h') <;> (try simp only [goS] at *) <;> (try simp only [rdi, rdy, Int.toNat_natCast, Nat.add_zero] at *) <;> (try simp only [rng]) <;> (first | assumption | omega)) | (exact due_app0 (by omega)) | (exact due_app (by omega)) | (intros; simp; done) | (intros; simp; omega)))
            | with_reducible refine Due.mk ?_
            | omega)
        | false =>
          rw [hD] at em dc
          rw [bm_congr fun i j _ _ => upto_no em i j]
          repeat' (first
            | ((with_reducible refine TOps.any ?_); refine TOps.callV env (by rfl) (by rfl) (by rfl) (dc) ?_)
            | refine GZp_i_y ?_ ?_ ?_ ?_ ?_ ?_ ?_ ?_
            | with_reducible first | exact BzZq.mk | refine Tw.ret ?_ | refine ImZq.i fun h => ?_ | refine IkZq.i fun hk => ?_)
          refine ⟨x + 1, by omega, by omega, TWk.fcanon env [some 0, some 1, some 2] (by rfl) ?_⟩
          repeat' (first
            | exact congrArg (fun n : Nat => (n : Int)) cn
            | with_reducible first | exact Conj.nil | refine Conj.cons rfl ?_ | refine Conj.same ?_ | refine Conj.ask ?_ ?_
            | ((with_reducible refine Due.mk ?_); (first | with_reducible rfl | omega | assumption | decide | ((try simp only [goS] at *) <;> (try intro h) <;> (try intro h') <;> (try simp only [goS] at *) <;> (try simp only [rdi, rdy, Int.toNat_natCast, Nat.add_zero] at *) <;> (try simp only [rng]) <;> (first | assumption | omega)) | (exact due_app0 (by omega)) | (exact due_app (by omega)) | (intros; simp; done) | (intros; simp; omega)))
            | with_reducible refine Due.mk ?_
            | omega)
      | false =>
        rw [hB, if_neg (by simp)] at em
        rw [hB] at dc
        obtain ⟨c1, c2⟩ := mCnt_in (s := s) (by omega) hx hy hB
        rw [← c1] at em
        generalize mCnt s x y = k at *
        have u1 : quo (k : Int) 8 = ((k / 8 : Nat) : Int) := by rw [quo_nn (by omega)]; omega
        have u2 : rem (k : Int) 8 = ((k % 8 : Nat) : Int) := by rw [rem_nn (by omega)]; omega
        have u3 : (7 - rem (k : Int) 8).toNat = 7 - k % 8 := by rw [u2]; omega
        have v1 : (k : Int) < 8 * A → (btab A W).getD (quo (k : Int) 8).toNat 0 = by8 (W (k / 8)) := fun h => by rw [u1, Int.toNat_natCast, btab_get (by omega)]
        have v2 : (k : Int) < 8 * A → (band ((btab A W).getD (quo (k : Int) 8).toNat 0 / 2 ^ (7 - rem (k : Int) 8).toNat) 1 = 1) = ((W (k / 8)).getLsbD (7 - k % 8) = true) := fun h => by
          rw [v1 h, u3]; exact bit8 _ ⟨7 - k % 8, by omega⟩
        have bb := by8_bd (W (k / 8))
        have sh : ∀ n : Nat, 0 ≤ by8 (W (k / 8)) / 2 ^ n ∧ by8 (W (k / 8)) / 2 ^ n ≤ 255 := fun n => by
          have h2 : (0 : Int) < 2 ^ n := Int.pow_pos (by omega)
          exact ⟨Int.ediv_nonneg (by omega) (by omega), Int.le_trans (Int.ediv_le_self _ (by omega)) (by omega)⟩
        have g1 : decide ((k : Int) < 8 * (A : Int)) = true → rng IntKind.i64 (quo (k : Int) 8) := fun _ => by rw [u1]; simp only [rng]; omega
        have g2 : decide ((k : Int) < 8 * (A : Int)) = true → 0 ≤ quo (k : Int) 8 ∧ quo (k : Int) 8 < ((btab A W).length : Int) := fun h => by have := of_decide_eq_true h; rw [u1, wl]; omega
        have g3 : decide ((k : Int) < 8 * (A : Int)) = true → -9223372036854775808 ≤ 7 - rem (k : Int) 8 ∧ 7 - rem (k : Int) 8 ≤ 9223372036854775807 := fun _ => by rw [u2]; omega
        have g4 : decide ((k : Int) < 8 * (A : Int)) = true → 0 ≤ 7 - rem (k : Int) 8 := fun _ => by rw [u2]; omega
        have g5 : decide ((k : Int) < 8 * (A : Int)) = true → rng IntKind.u8 ((btab A W).getD (quo (k : Int) 8).toNat 0) := fun h => by rw [v1 (of_decide_eq_true h)]; simp only [rng]; omega
        have g6 : decide ((k : Int) < 8 * (A : Int)) = true → 0 ≤ (btab A W).getD (quo (k : Int) 8).toNat 0 / 2 ^ (7 - rem (k : Int) 8).toNat := fun h => by rw [v1 (of_decide_eq_true h)]; exact (sh _).1
        have g7 : decide ((k : Int) < 8 * (A : Int)) = true → rng IntKind.u8 ((btab A W).getD (quo (k : Int) 8).toNat 0 / 2 ^ (7 - rem (k : Int) 8).toNat) := fun h => by rw [v1 (of_decide_eq_true h)]; have := sh (7 - rem (k : Int) 8).toNat; simp only [rng]; omega
        have eb : mBit s W k = decide ((k : Int) < 8 * (A : Int) ∧ band ((btab A W).getD (quo (k : Int) 8).toNat 0 / 2 ^ (7 - rem (k : Int) 8).toNat) 1 = 1) := by
          unfold mBit
          rw [← hA]
          by_cases hk : (k : Int) < 8 * (A : Int)
          · rw [decide_eq_true (show k < 8 * A by omega), Bool.true_and]
            have v3 := v2 hk
            cases hc : (W (k / 8)).getLsbD (7 - k % 8)
            · rw [hc] at v3
              rw [decide_eq_false]; rintro ⟨_, h⟩; rw [v3] at h; cases h
            · rw [hc] at v3
              rw [decide_eq_true]; exact ⟨hk, by rw [v3]⟩
          · rw [decide_eq_false (show ¬ k < 8 * A by omega), decide_eq_false (fun h => hk h.1)]; rfl
        rw [eb] at em
        by_cases hq : (k : Int) < 8 * (A : Int) ∧ band ((btab A W).getD (quo (k : Int) 8).toNat 0 / 2 ^ (7 - rem (k : Int) 8).toNat) 1 = 1
        · rw [decide_eq_true hq] at em
          rw [bm_congr (f := fun i j => upto (mMod s W) x y i j || (decide (i = x) && decide (j = y))) fun i j _ _ => upto_yes em i j] at mc
          repeat' (first
            | ((with_reducible refine TOps.any ?_); refine TOps.callV env (by rfl) (by rfl) (by rfl) (dc) ?_)
            | ((with_reducible refine TOps.any ?_); refine TOps.callHE env [2, 1] (mc) (by rfl) (by rfl) (by rfl) (by rfl) (by rfl) (by rfl) (by repeat' (first | exact trivial | refine ⟨rfl, ?_⟩)) ?_)
            | exact g1
            | exact g2
            | exact g3
            | exact g4
            | exact g5
            | exact g6
            | exact g7
            | refine GZ_i_y ?_ ?_ ?_ ?_ ?_ ?_ ?_ ?_
            | with_reducible first | exact BzZq.mk | refine Tw.ret ?_ | refine ImZq.i fun h => ?_ | refine IkZq.i fun hk => ?_)
          refine ⟨x + 1, by omega, by omega, TWk.fcanon env [some 0, some 1, some 2] (by rfl) ?_⟩
          repeat' (first
            | exact congrArg (fun n : Nat => (n : Int)) c2
            | with_reducible first | exact Conj.nil | refine Conj.cons rfl ?_ | refine Conj.same ?_ | refine Conj.ask ?_ ?_
            | ((with_reducible refine Due.mk ?_); (first | with_reducible rfl | omega | assumption | decide | ((try simp only [goS] at *) <;> (try intro h) <;> (try intro h') <;> (try simp only [goS] at *) <;> (try simp only [rdi, rdy, Int.toNat_natCast, Nat.add_zero] at *) <;> (try simp only [rng]) <;> (first | assumption | omega)) | (exact due_app0 (by omega)) | (exact due_app (by omega)) | (intros; simp; done) | (intros; simp; omega)))
            | with_reducible refine Due.mk ?_
            | omega)
        · rw [decide_eq_false hq] at em
          rw [bm_congr fun i j _ _ => upto_no em i j]
          repeat' (first
            | ((with_reducible refine TOps.any ?_); refine TOps.callV env (by rfl) (by rfl) (by rfl) (dc) ?_)
            | exact g1
            | exact g2
            | exact g3
            | exact g4
            | exact g5
            | exact g6
            | exact g7
            | refine GZ_i_y ?_ ?_ ?_ ?_ ?_ ?_ ?_ ?_
            | with_reducible first | exact BzZq.mk | refine Tw.ret ?_ | refine ImZq.i fun h => ?_ | refine IkZq.i fun hk => ?_)
          refine ⟨x + 1, by omega, by omega, TWk.fcanon env [some 0, some 1, some 2] (by rfl) ?_⟩
          repeat' (first
            | exact congrArg (fun n : Nat => (n : Int)) c2
            | with_reducible first | exact Conj.nil | refine Conj.cons rfl ?_ | refine Conj.same ?_ | refine Conj.ask ?_ ?_
            | ((with_reducible refine Due.mk ?_); (first | with_reducible rfl | omega | assumption | decide | ((try simp only [goS] at *) <;> (try intro h) <;> (try intro h') <;> (try simp only [goS] at *) <;> (try simp only [rdi, rdy, Int.toNat_natCast, Nat.add_zero] at *) <;> (try simp only [rng]) <;> (first | assumption | omega)) | (exact due_app0 (by omega)) | (exact due_app (by omega)) | (intros; simp; done) | (intros; simp; omega)))
            | with_reducible refine Due.mk ?_
            | omega)
    · obtain rfl : x = s := by omega
      have cr := mCnt_row (s := x) (by omega) hy
      rw [bm_congr fun i j hi _ => upto_row (g := mMod x W) (y := y) hi]
      repeat' (first
        | refine GZp_i_y ?_ ?_ ?_ ?_ ?_ ?_ ?_ ?_
        | with_reducible first | exact BzZq.mk | refine Tw.ret ?_ | refine ImZq.i fun h => ?_ | refine IkZq.i fun hk => ?_)
      refine ⟨y + 1, by omega, by omega, TWk.fcanon env [some 0, some 1, some 2] (by rfl) ?_⟩
      repeat' (first
        | exact congrArg (fun n : Nat => (n : Int)) cr
        | with_reducible first | exact Conj.nil | refine Conj.cons rfl ?_ | refine Conj.same ?_ | refine Conj.ask ?_ ?_
        | ((with_reducible refine Due.mk ?_); (first | with_reducible rfl | omega | assumption | decide | ((try simp only [goS] at *) <;> (try intro h) <;> (try intro h') <;> (try simp only [goS] at *) <;> (try simp only [rdi, rdy, Int.toNat_natCast, Nat.add_zero] at *) <;> (try simp only [rng]) <;> (first | assumption | omega)) | (exact due_app0 (by omega)) | (exact due_app (by omega)) | (intros; simp; done) | (intros; simp; omega)))
        | with_reducible refine Due.mk ?_
        | omega)
  · obtain rfl : y = s := by omega
    rw [bm_congr fun i j _ hj => upto_all (g := mMod y W) hj]
    have hbl := bm_len (w := y) (h := y) (f := mMod y W)
    have hle : 0 + st y * y ≤ (bm y y (mMod y W)).length := by omega
    repeat' (first
      | exact hle
      | ((with_reducible refine Tw.retI ?_); refine Tw.frz env 1 (by rfl) (by rfl) (by rfl) ?_ ?_ (Tw.ret ?_))
      | refine GZp_i_y ?_ ?_ ?_ ?_ ?_ ?_ ?_ ?_
      | with_reducible first | exact BzZq.mk | refine Tw.ret ?_ | refine ImZq.i fun h => ?_ | refine IkZq.i fun hk => ?_)
    rw [cut_all bm_len.symm]
    exact ⟨rfl, rfl, rfl⟩
theorem mEncode0_c (s  : Nat) (g : Nat → BitVec 8) (hs : Due (Side s)) (hm : Due (0 + mPar s + 1 ≤ mAll s)) :
    TC R Try.prog matrix_Encode_f [.nils, .int .i64 s] [] (fun v X => v = .tup [.agg [.int .i64 s, .int .i64 s, .lst Ey (bm s s (mMod s (mWord s 0 g)))], .int .i64 0] ∧ X = []) := by
  have sc := size_c s hs
  have sf := Side.facts hs
  have hb := hs.bd
  dsimp only [Due] at hs hm
  obtain ⟨A, hA⟩ : ∃ A, A = mAll s := ⟨_, rfl⟩
  obtain ⟨P, hP⟩ : ∃ P, P = mPar s := ⟨_, rfl⟩
  have gl : (btab 0 g).length = 0 := btab_len
  have ec := encode_c (mPlain 0 g) (A - P) P (by unfold Due; omega)
  have eW : word rt P (A - P) (mPlain 0 g) = mWord s 0 g := by unfold mWord; rw [hA, hP]
  rw [eW, show A - P + P = A by omega] at ec
  have bc := blank_c s s (by unfold Due; omega) (by unfold Due; omega)
  rw [bm_congr (g := upto (mMod s (mWord s 0 g)) 0 0) fun x y _ _ => upto_none.symm] at bc
  generalize mWord s 0 g = W at *
  rw [← hA, ← hP] at sf sc
  have pA : ((A : Int) - (P : Int)).toNat = A - P := by omega
  refine tc0 env matrix_Encode_s (by rfl) ?_
  dsimp only [matrix_Encode_c]
  have rl := mRow1 0 A P g (by omega)
  rw [← mRow0 0 A P g (by omega) (by omega)] at ec
  repeat' (first
    | ((with_reducible refine TOps.any ?_); refine TOps.callV env (by rfl) (by rfl) (by rfl) (sc) ?_)
    | refine GZy_i_y gl ?_ ?_ ?_ ?_ ?_ ?_ ?_ ?_
    | with_reducible first | exact BzZq.mk | refine Tw.ret ?_ | refine ImZq.i fun h => ?_ | refine IkZq.i fun hk => ?_)
  refine TOps.frz env 1 (by rfl) (by rfl) (by rfl) ?_ ?_ ?_
  · repeat' (first
      | exact rl
      | with_reducible first | exact Conj.nil | refine Conj.cons rfl ?_ | refine Conj.same ?_ | refine Conj.ask ?_ ?_
      | ((with_reducible refine Due.mk ?_); (first | with_reducible rfl | omega | assumption | decide | ((try simp only [goS] at *) <;> (try intro h) <;> (try intro h') <;> (try simp only [goS] at *) <;> (try simp only [rdi, rdy, Int.toNat_natCast, Nat.add_zero] at *) <;> (try simp only [rng]) <;> (first | assumption | omega)) | (exact due_app0 (by omega)) | (exact due_app (by omega)) | (intros; simp; done) | (intros; simp; omega)))
      | with_reducible refine Due.mk ?_
      | omega)
  · repeat' (first
      | exact rl
      | with_reducible first | exact Conj.nil | refine Conj.cons rfl ?_ | refine Conj.same ?_ | refine Conj.ask ?_ ?_
      | ((with_reducible refine Due.mk ?_); (first | with_reducible rfl | omega | assumption | decide | ((try simp only [goS] at *) <;> (try intro h) <;> (try intro h') <;> (try simp only [goS] at *) <;> (try simp only [rdi, rdy, Int.toNat_natCast, Nat.add_zero] at *) <;> (try simp only [rng]) <;> (first | assumption | omega)) | (exact due_app0 (by omega)) | (exact due_app (by omega)) | (intros; simp; done) | (intros; simp; omega)))
      | with_reducible refine Due.mk ?_
      | omega)
  repeat' (first
    | ((with_reducible refine TOps.any ?_); refine TOps.callV env (by rfl) (by rfl) (by rfl) (ec) ?_)
    | ((with_reducible refine TOps.any ?_); refine TOps.callV env (by rfl) (by rfl) (by rfl) (bc) ?_)
    | refine GZp_i_y ?_ ?_ ?_ ?_ ?_ ?_ ?_ ?_
    | with_reducible first | exact BzZq.mk | refine Tw.ret ?_ | refine ImZq.i fun h => ?_ | refine IkZq.i fun hk => ?_)
  have wl : (btab A W).length = A := btab_len
  refine Tw.loopK [1, 6, 11, 60] (fun y : Nat => y ≤ s) (fun y => s - y) (fun y => [(61, .int .i64 y), (13, .int .i64 (mCnt s 0 y : Nat)), (4, .ptr 0 0), (12, .ptr 2 0)])
    (fun y => [some (.cells [.int .i64 0, .int .i64 0, .nils]), some (.arr Ey (bm s s (upto (mMod s W) 0 y))), some (.cells [.int .i64 s, .int .i64 s, .sla 1 1 0 (st s * s)])]) ⟨0, by omega, TWk.fcanon env [some 0, some 2, some 3] (by rfl) ?_⟩ (fun y hy => ?_)
  · have z := congrArg (fun n : Nat => (n : Int)) (mCnt_zero hb)
    repeat' (first
      | exact z.symm
      | exact z
      | with_reducible first | exact Conj.nil | refine Conj.cons rfl ?_ | refine Conj.same ?_ | refine Conj.ask ?_ ?_
      | ((with_reducible refine Due.mk ?_); (first | with_reducible rfl | omega | assumption | decide | ((try simp only [goS] at *) <;> (try intro h) <;> (try intro h') <;> (try simp only [goS] at *) <;> (try simp only [rdi, rdy, Int.toNat_natCast, Nat.add_zero] at *) <;> (try simp only [rng]) <;> (first | assumption | omega)) | (exact due_app0 (by omega)) | (exact due_app (by omega)) | (intros; simp; done) | (intros; simp; omega)))
      | with_reducible refine Due.mk ?_
      | omega)
  rcases Nat.lt_or_ge y s with hy | hy
  · repeat' (first
      | refine GZp_i_y ?_ ?_ ?_ ?_ ?_ ?_ ?_ ?_
      | with_reducible first | exact BzZq.mk | refine Tw.ret ?_ | refine ImZq.i fun h => ?_ | refine IkZq.i fun hk => ?_)
    refine Tw.loopK [1, 6, 11, 60, 61, 4, 12, 14, 64] (fun x : Nat => x ≤ s) (fun x => s - x) (fun x => [(65, .int .i64 x), (13, .int .i64 (mCnt s x y : Nat))])
      (fun x => [some (.cells [.int .i64 0, .int .i64 0, .nils]), some (.arr Ey (bm s s (upto (mMod s W) x y))), some (.cells [.int .i64 s, .int .i64 s, .sla 1 1 0 (st s * s)])]) ⟨0, by omega, TWk.fcanon env [some 0, some 1, some 2] (by rfl) ?_⟩ (fun x hx => ?_)
    · repeat' (first
        | with_reducible first | exact Conj.nil | refine Conj.cons rfl ?_ | refine Conj.same ?_ | refine Conj.ask ?_ ?_
        | ((with_reducible refine Due.mk ?_); (first | with_reducible rfl | omega | assumption | decide | ((try simp only [goS] at *) <;> (try intro h) <;> (try intro h') <;> (try simp only [goS] at *) <;> (try simp only [rdi, rdy, Int.toNat_natCast, Nat.add_zero] at *) <;> (try simp only [rng]) <;> (first | assumption | omega)) | (exact due_app0 (by omega)) | (exact due_app (by omega)) | (intros; simp; done) | (intros; simp; omega)))
        | with_reducible refine Due.mk ?_
        | omega)
    rcases Nat.lt_or_ge x s with hx | hx
    · have dc := dark_c s x y (by unfold Due; omega) hx hy
      have hbd := bm_bd (w := s) (h := s) (f := upto (mMod s W) x y) (at8_lt hx hy)
      have hbl := bm_len (w := s) (h := s) (f := upto (mMod s W) x y)
      have hmk := bm_mark (f := upto (mMod s W) x y) hx hy
      have mc := mark_c s s (bm s s (upto (mMod s W) x y)) x y (by unfold Due; omega) (by unfold Due; omega) hbl hbd hx hy
      rw [hmk] at mc
      have cb := mCnt_bd (s := s) (x := x) (y := y) hb
      have em : mMod s W x y = if mBord s x y then mDark s x y else mBit s W ((y - 1) * (s - 2) + (x - 1)) := rfl
      cases hB : mBord s x y with
      | true =>
        rw [hB, if_pos rfl] at em
        rw [hB] at dc
        have cn := mCnt_out (s := s) (by omega) hx hy hB
        cases hD : mDark s x y with
        | true =>
          rw [hD] at em dc
          rw [bm_congr (f := fun i j => upto (mMod s W) x y i j || (decide (i = x) && decide (j = y))) fun i j _ _ => upto_yes em i j] at mc
          repeat' (first
            | ((with_reducible refine TOps.any ?_); refine TOps.callV env (by rfl) (by rfl) (by rfl) (dc) ?_)
            | ((with_reducible refine TOps.any ?_); refine TOps.callHE env [2, 1] (mc) (by rfl) (by rfl) (by rfl) (by rfl) (by rfl) (by rfl) (by repeat' (first | exact trivial | refine ⟨rfl, ?_⟩)) ?_)
            | refine GZp_i_y ?_ ?_ ?_ ?_ ?_ ?_ ?_ ?_
            | with_reducible first | exact BzZq.mk | refine Tw.ret ?_ | refine ImZq.i fun h => ?_ | refine IkZq.i fun hk => ?_)
          refine ⟨x + 1, by omega, by omega, TWk.fcanon env [some 0, some 1, some 2] (by rfl) ?_⟩
          repeat' (first
            | exact congrArg (fun n : Nat => (n : Int)) cn
            | with_reducible first | exact Conj.nil | refine Conj.cons rfl ?_ | refine Conj.same ?_ | refine Conj.ask ?_ ?_
            | ((with_reducible refine Due.mk ?_); (first | with_reducible rfl | omega | assumption | decide | ((try simp only [goS] at *) <;> (try intro h) <;> (try intro h') <;> (try simp only [goS] at *) <;> (try simp only [rdi, rdy, Int.toNat_natCast, Nat.add_zero] at *) <;> (try simp only [rng]) <;> (first | assumption | omega)) | (exact due_app0 (by omega)) | (exact due_app (by omega)) | (intros; simp; done) | (intros; simp; omega)))
            | with_reducible refine Due.mk ?_
            | omega)
        | false =>
          rw [hD] at em dc
          rw [bm_congr fun i j _ _ => upto_no em i j]
          repeat' (first
            | ((with_reducible refine TOps.any ?_); refine TOps.callV env (by rfl) (by rfl) (by rfl) (dc) ?_)
            | refine GZp_i_y ?_ ?_ ?_ ?_ ?_ ?_ ?_ ?_
            | with_reducible first | exact BzZq.mk | refine Tw.ret ?_ | refine ImZq.i fun h => ?_ | refine IkZq.i fun hk => ?_)
          refine ⟨x + 1, by omega, by omega, TWk.fcanon env [some 0, some 1, some 2] (by rfl) ?_⟩
          repeat' (first
            | exact congrArg (fun n : Nat => (n : Int)) cn
            | with_reducible first | exact Conj.nil | refine Conj.cons rfl ?_ | refine Conj.same ?_ | refine Conj.ask ?_ ?_
            | ((with_reducible refine Due.mk ?_); (first | with_reducible rfl | omega | assumption | decide | ((try simp only [goS] at *) <;> (try intro h) <;> (try intro h') <;> (try simp only [goS] at *) <;> (try simp only [rdi, rdy, Int.toNat_natCast, Nat.add_zero] at *) <;> (try simp only [rng]) <;> (first | assumption | omega)) | (exact due_app0 (by omega)) | (exact due_app (by omega)) | (intros; simp; done) | (intros; simp; omega)))
            | with_reducible refine Due.mk ?_
            | omega)
      | false =>
        rw [hB, if_neg (by simp)] at em
        rw [hB] at dc
        obtain ⟨c1, c2⟩ := mCnt_in (s := s) (by omega) hx hy hB
        rw [← c1] at em
        generalize mCnt s x y = k at *
        have u1 : quo (k : Int) 8 = ((k / 8 : Nat) : Int) := by rw [quo_nn (by omega)]; omega
        have u2 : rem (k : Int) 8 = ((k % 8 : Nat) : Int) := by rw [rem_nn (by omega)]; omega
        have u3 : (7 - rem (k : Int) 8).toNat = 7 - k % 8 := by rw [u2]; omega
        have v1 : (k : Int) < 8 * A → (btab A W).getD (quo (k : Int) 8).toNat 0 = by8 (W (k / 8)) := fun h => by rw [u1, Int.toNat_natCast, btab_get (by omega)]
        have v2 : (k : Int) < 8 * A → (band ((btab A W).getD (quo (k : Int) 8).toNat 0 / 2 ^ (7 - rem (k : Int) 8).toNat) 1 = 1) = ((W (k / 8)).getLsbD (7 - k % 8) = true) := fun h => by
          rw [v1 h, u3]; exact bit8 _ ⟨7 - k % 8, by omega⟩
        have bb := by8_bd (W (k / 8))
        have sh : ∀ n : Nat, 0 ≤ by8 (W (k / 8)) / 2 ^ n ∧ by8 (W (k / 8)) / 2 ^ n ≤ 255 := fun n => by
          have h2 : (0 : Int) < 2 ^ n := Int.pow_pos (by omega)
          exact ⟨Int.ediv_nonneg (by omega) (by omega), Int.le_trans (Int.ediv_le_self _ (by omega)) (by omega)⟩
        have g1 : decide ((k : Int) < 8 * (A : Int)) = true → rng IntKind.i64 (quo (k : Int) 8) := fun _ => by rw [u1]; simp only [rng]; omega
        have g2 : decide ((k : Int) < 8 * (A : Int)) = true → 0 ≤ quo (k : Int) 8 ∧ quo (k : Int) 8 < ((btab A W).length : Int) := fun h => by have := of_decide_eq_true h; rw [u1, wl]; omega
        have g3 : decide ((k : Int) < 8 * (A : Int)) = true → -9223372036854775808 ≤ 7 - rem (k : Int) 8 ∧ 7 - rem (k : Int) 8 ≤ 9223372036854775807 := fun _ => by rw [u2]; omega
        have g4 : decide ((k : Int) < 8 * (A : Int)) = true → 0 ≤ 7 - rem (k : Int) 8 := fun _ => by rw [u2]; omega
        have g5 : decide ((k : Int) < 8 * (A : Int)) = true → rng IntKind.u8 ((btab A W).getD (quo (k : Int) 8).toNat 0) := fun h => by rw [v1 (of_decide_eq_true h)]; simp only [rng]; omega
        have g6 : decide ((k : Int) < 8 * (A : Int)) = true → 0 ≤ (btab A W).getD (quo (k : Int) 8).toNat 0 / 2 ^ (7 - rem (k : Int) 8).toNat := fun h => by rw [v1 (of_decide_eq_true h)]; exact (sh _).1
        have g7 : decide ((k : Int) < 8 * (A : Int)) = true → rng IntKind.u8 ((btab A W).getD (quo (k : Int) 8).toNat 0 / 2 ^ (7 - rem (k : Int) 8).toNat) := fun h => by rw [v1 (of_decide_eq_true h)]; have := sh (7 - rem (k : Int) 8).toNat; simp only [rng]; omega
        have eb : mBit s W k = decide ((k : Int) < 8 * (A : Int) ∧ band ((btab A W).getD (quo (k : Int) 8).toNat 0 / 2 ^ (7 - rem (k : Int) 8).toNat) 1 = 1) := by
          unfold mBit
          rw [← hA]
          by_cases hk : (k : Int) < 8 * (A : Int)
          · rw [decide_eq_true (show k < 8 * A by omega), Bool.true_and]
            have v3 := v2 hk
            cases hc : (W (k / 8)).getLsbD (7 - k % 8)
            · rw [hc] at v3
              rw [decide_eq_false]; rintro ⟨_, h⟩; rw [v3] at h; cases h
            · rw [hc] at v3
              rw [decide_eq_true]; exact ⟨hk, by rw [v3]⟩
          · rw [decide_eq_false (show ¬ k < 8 * A by omega), decide_eq_false (fun h => hk h.1)]; rfl
        rw [eb] at em
        by_cases hq : (k : Int) < 8 * (A : Int) ∧ band ((btab A W).getD (quo (k : Int) 8).toNat 0 / 2 ^ (7 - rem (k : Int) 8).toNat) 1 = 1
        · rw [decide_eq_true hq] at em
          rw [bm_congr (f := fun i j => upto (mMod s W) x y i j || (decide (i = x) && decide (j = y))) fun i j _ _ => upto_yes em i j] at mc
          repeat' (first
            | ((with_reducible refine TOps.any ?_); refine TOps.callV env (by rfl) (by rfl) (by rfl) (dc) ?_)
            | ((with_reducible refine TOps.any ?_); refine TOps.callHE env [2, 1] (mc) (by rfl) (by rfl) (by rfl) (by rfl) (by rfl) (by rfl) (by repeat' (first | exact trivial | refine ⟨rfl, ?_⟩)) ?_)
            | exact g1
            | exact g2
            | exact g3
            | exact g4
            | exact g5
            | exact g6
            | exact g7
            | refine GZ_i_y ?_ ?_ ?_ ?_ ?_ ?_ ?_ ?_
            | with_reducible first | exact BzZq.mk | refine Tw.ret ?_ | refine ImZq.i fun h => ?_ | refine IkZq.i fun hk => ?_)
          refine ⟨x + 1, by omega, by omega, TWk.fcanon env [some 0, some 1, some 2] (by rfl) ?_⟩
          repeat' (first
            | exact congrArg (fun n : Nat => (n : Int)) c2
            | with_reducible first | exact Conj.nil | refine Conj.cons rfl ?_ | refine Conj.same ?_ | refine Conj.ask ?_ ?_
            | ((with_reducible refine Due.mk ?_); (first | with_reducible rfl | omega | assumption | decide | ((try simp only [goS] at *) <;> (try intro h) <;> (try intro h') <;> (try simp only [goS] at *) <;> (try simp only [rdi, rdy, Int.toNat_natCast, Nat.add_zero] at *) <;> (try simp only [rng]) <;> (first | assumption | omega)) | (exact due_app0 (by omega)) | (exact due_app (by omega)) | (intros; simp; done) | (intros; simp; omega)))
            | with_reducible refine Due.mk ?_
            | omega)
        · rw [decide_eq_false hq] at em
          rw [bm_congr fun i j _ _ => upto_no em i j]
          repeat' (first
            | ((with_reducible refine TOps.any ?_); refine TOps.callV env (by rfl) (by rfl) (by rfl) (dc) ?_)
            | exact g1
            | exact g2
            | exact g3
            | exact g4
            | exact g5
            | exact g6
            | exact g7
            | refine GZ_i_y ?_ ?_ ?_ ?_ ?_ ?_ ?_ ?_
            | with_reducible first | exact BzZq.mk | refine Tw.ret ?_ | refine ImZq.i fun h => ?_ | refine IkZq.i fun hk => ?_)
          refine ⟨x + 1, by omega, by omega, TWk.fcanon env [some 0, some 1, some 2] (by rfl) ?_⟩
          repeat' (first
            | exact congrArg (fun n : Nat => (n : Int)) c2
            | with_reducible first | exact Conj.nil | refine Conj.cons rfl ?_ | refine Conj.same ?_ | refine Conj.ask ?_ ?_
            | ((with_reducible refine Due.mk ?_); (first | with_reducible rfl | omega | assumption | decide | ((try simp only [goS] at *) <;> (try intro h) <;> (try intro h') <;> (try simp only [goS] at *) <;> (try simp only [rdi, rdy, Int.toNat_natCast, Nat.add_zero] at *) <;> (try simp only [rng]) <;> (first | assumption | omega)) | (exact due_app0 (by omega)) | (exact due_app (by omega)) | (intros; simp; done) | (intros; simp; omega)))
            | with_reducible refine Due.mk ?_
            | omega)
    · obtain rfl : x = s := by omega
      have cr := mCnt_row (s := x) (by omega) hy
      rw [bm_congr fun i j hi _ => upto_row (g := mMod x W) (y := y) hi]
      repeat' (first
        | refine GZp_i_y ?_ ?_ ?_ ?_ ?_ ?_ ?_ ?_
        | with_reducible first | exact BzZq.mk | refine Tw.ret ?_ | refine ImZq.i fun h => ?_ | refine IkZq.i fun hk => ?_)
      refine ⟨y + 1, by omega, by omega, TWk.fcanon env [some 0, some 1, some 2] (by rfl) ?_⟩
      repeat' (first
        | exact congrArg (fun n : Nat => (n : Int)) cr
        | with_reducible first | exact Conj.nil | refine Conj.cons rfl ?_ | refine Conj.same ?_ | refine Conj.ask ?_ ?_
        | ((with_reducible refine Due.mk ?_); (first | with_reducible rfl | omega | assumption | decide | ((try simp only [goS] at *) <;> (try intro h) <;> (try intro h') <;> (try simp only [goS] at *) <;> (try simp only [rdi, rdy, Int.toNat_natCast, Nat.add_zero] at *) <;> (try simp only [rng]) <;> (first | assumption | omega)) | (exact due_app0 (by omega)) | (exact due_app (by omega)) | (intros; simp; done) | (intros; simp; omega)))
        | with_reducible refine Due.mk ?_
        | omega)
  · obtain rfl : y = s := by omega
    rw [bm_congr fun i j _ hj => upto_all (g := mMod y W) hj]
    have hbl := bm_len (w := y) (h := y) (f := mMod y W)
    have hle : 0 + st y * y ≤ (bm y y (mMod y W)).length := by omega
    repeat' (first
      | exact hle
      | ((with_reducible refine Tw.retI ?_); refine Tw.frz env 1 (by rfl) (by rfl) (by rfl) ?_ ?_ (Tw.ret ?_))
      | refine GZp_i_y ?_ ?_ ?_ ?_ ?_ ?_ ?_ ?_
      | with_reducible first | exact BzZq.mk | refine Tw.ret ?_ | refine ImZq.i fun h => ?_ | refine IkZq.i fun hk => ?_)
    rw [cut_all bm_len.symm]
    exact ⟨rfl, rfl, rfl⟩
end Go.Proofs.Ythkilkjngincpaa
