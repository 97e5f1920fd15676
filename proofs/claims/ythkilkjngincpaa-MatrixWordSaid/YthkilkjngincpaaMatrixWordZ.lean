/- The law MatrixWord: the modules inside the border are a word that begins with the number of its data. -/
import Derived.Test.YthkilkjngincpaaMtx5
import Derived.Test.YthkilkjngincpaaMtxW
import Derived.Test.YthkilkjngincpaaRTurn
import Derived.Test.YthkilkjngincpaaRMod
import Derived.Test.YthkilkjngincpaaXMatrixWord0
import Derived.Test.YthkilkjngincpaaGo
namespace Go.Proofs.Ythkilkjngincpaa
open Go Go.Lite
set_option linter.unusedVariables false
set_option linter.unusedSimpArgs false
set_option maxRecDepth 100000
set_option maxHeartbeats 4000000
-- @simp rdi rdy rdo

theorem MatrixWord_law (l : List Int) (c : Int) (wl : l.length ≤ 9223372036854775807 ∧ ∀ y ∈ l, Wy y) (rc : rng .i64 c) :
    TC R Try.prog K2_MatrixWord_f [.lst Ey l, .int .i64 c] [] (fun v X => v = .bool true ∧ X = []) := by
  simp only [rng] at rc
  obtain ⟨wl, vl⟩ := wl
  have mc := rMod_c c 13 (by unfold Due; omega)
  obtain ⟨r, hr⟩ : ∃ r : Nat, c % 13 = r := ⟨(c % 13).toNat, by omega⟩
  rw [hr] at mc
  obtain ⟨s, hs⟩ : ∃ s : Nat, s = 8 + 2 * r := ⟨_, rfl⟩
  have es : (8 : Int) + 2 * (r : Int) = (s : Int) := by omega
  have Sd : Side s := ⟨by omega, by omega⟩
  have sf := Side.facts Sd
  have sc := size_c s Sd
  obtain ⟨m, hm⟩ : ∃ m : Nat, min (l.length : Int) ((mAll s : Int) - (mPar s : Int) - 1) = m := ⟨(min (l.length : Int) ((mAll s : Int) - (mPar s : Int) - 1)).toNat, by omega⟩
  have b1 : ∀ i, i < m → 0 ≤ l.getD i 0 ∧ l.getD i 0 ≤ 255 := fun i hi => by have := vl _ (getD_mem (d := 0) (show i < l.length by omega)); simpa [Wy, rng] using this
  have e1 := bits_list (l := l) (n := m) (by omega) b1
  generalize (fun k => BitVec.ofInt 8 (l.getD k 0)) = g at *
  have ec := mEncode_c s m g Sd (by unfold Due; omega)
  rw [← e1] at ec
  have hA : mAll s = (s - 2) * (s - 2) / 8 := rfl
  have hW := mWord_ok (m := m) (g := g) Sd
  have hW0 := fun i => mWord_plain (s := s) (m := m) (g := g) (i := i)
  have wd := mod_word (s := s) (W := mWord s m g) (by omega)
  have sq := mGot_all (s := s) (f := mMod s (mWord s m g)) (by omega)
  generalize mWord s m g = W at *
  have ok : BmOk s s (bm s s (mMod s W)) := bm_ok (by omega) (by omega)
  have kc := bCheck_y s s _ ok
  refine tc0 env K2_MatrixWord_s (by rfl) ?_
  dsimp only [K2_MatrixWord_c]
  repeat' (first
    | ((with_reducible refine TOps.any ?_); refine TOps.callV env (by rfl) (by rfl) (by rfl) (matrixWorks_c) ?_)
    | ((with_reducible refine TOps.any ?_); refine TOps.callV env (by rfl) (by rfl) (by rfl) (mc) ?_)
    | refine GZp_i_y_o ?_ ?_ ?_ ?_ ?_ ?_ ?_ ?_
    | with_reducible first | exact BzZq.mk | refine Tw.ret ?_ | refine ImZq.i fun h => ?_ | refine IkZq.i fun hk => ?_)
  rw [es]
  repeat' (first
    | ((with_reducible refine TOps.any ?_); refine TOps.callV env (by rfl) (by rfl) (by rfl) (sc) ?_)
    | refine GZy_i_y_o hm ?_ ?_ ?_ ?_ ?_ ?_ ?_ ?_
    | with_reducible first | exact BzZq.mk | refine Tw.ret ?_ | refine ImZq.i fun h => ?_ | refine IkZq.i fun hk => ?_)
  rw [hm]
  repeat' (first
    | ((with_reducible refine TOps.any ?_); refine TOps.callV env (by rfl) (by rfl) (by rfl) (ec) ?_)
    | ((with_reducible refine TOps.any ?_); refine TOps.callV env (by rfl) (by rfl) (by rfl) (kc) ?_)
    | refine GZp_i_y_o ?_ ?_ ?_ ?_ ?_ ?_ ?_ ?_
    | with_reducible first | exact BzZq.mk | refine Tw.ret ?_ | refine ImZq.i fun h => ?_ | refine IkZq.i fun hk => ?_)
  have gl := mGot_len s (mMod s W)
  have hpx : ∀ x y : Nat, x < s → y < s → px s s (bm s s (mMod s W)) (x : Int) (y : Int) = mMod s W x y := fun x y hx hy => px_bm hx hy
  generalize hF : mMod s W = F at *
  generalize hB : bm s s F = B at *
  have lA : 8 * mAll s ≤ (s - 2) * (s - 2) := by omega
  generalize hAA : mAll s = A at *
  generalize hPP : mPar s = P at *
  refine Tw.loopK [0, 1, 5, 6, 9, 72] (fun i : Nat => i ≤ 8 * A) (fun i => 8 * A - i) (fun i => [(73, .int .i64 i), (11, .sla 1 1 0 A)])
    (fun i => [some (.cells [.int .i64 s, .int .i64 s, .lst Ey B]), some (.arr Ey (mGot s F i))]) ⟨0, by omega, TWk.fcanon env [some 0, some 1] (by rfl) ?_⟩ (fun i hi => ?_)
  · have z2 : mGot s F 0 = List.replicate A 0 := by rw [mGot_zero, hAA]
    repeat' (first
      | exact z2
      | exact z2.symm
      | with_reducible first | exact Conj.nil | refine Conj.cons rfl ?_ | refine Conj.same ?_ | refine Conj.ask ?_ ?_
      | ((with_reducible refine Due.mk ?_); (first | with_reducible rfl | omega | assumption | decide | ((try simp only [goS] at *) <;> (try intro h) <;> (try intro h') <;> (try simp only [goS] at *) <;> (try simp only [rdi, rdy, rdo, Int.toNat_natCast, Nat.add_zero] at *) <;> (try simp only [rng]) <;> (first | assumption | omega)) | (exact due_app0 (by omega)) | (exact due_app (by omega)) | (intros; simp; done) | (intros; simp; omega)))
      | with_reducible refine Due.mk ?_
      | omega)
  rcases Nat.lt_or_ge i (8 * A) with hi | hi
  · have d1 : 0 < s - 2 := by omega
    have u3 := Nat.mod_lt i d1
    have u4 : i / (s - 2) < s - 2 := Nat.div_lt_of_lt_mul (by omega)
    have u1 : rem (i : Int) ((s : Int) - 2) = ((i % (s - 2) : Nat) : Int) := by rw [show (s : Int) - 2 = ((s - 2 : Nat) : Int) by omega, rem_nn (by omega)]; simp
    have u2 : quo (i : Int) ((s : Int) - 2) = ((i / (s - 2) : Nat) : Int) := by rw [show (s : Int) - 2 = ((s - 2 : Nat) : Int) by omega, quo_nn (by omega)]; simp
    have fi : px s s B (1 + rem (i : Int) ((s : Int) - 2)) (1 + quo (i : Int) ((s : Int) - 2)) = mIn s F i := by
      rw [u1, u2]
      unfold mIn
      generalize i % (s - 2) = u at *
      generalize i / (s - 2) = v at *
      rw [← hpx (1 + u) (1 + v) (by omega) (by omega)]
      congr 1
    have rb := rBit_c s s B (1 + rem (i : Int) ((s : Int) - 2)) (1 + quo (i : Int) ((s : Int) - 2)) ok (by rw [u1]; omega) (by rw [u2]; generalize i / (s - 2) = v at *; omega)
    rw [fi] at rb
    have r1 : rng .i64 (rem (i : Int) ((s : Int) - 2)) := by rw [u1]; simp only [rng]; omega
    have r2 : rng .i64 (quo (i : Int) ((s : Int) - 2)) := by rw [u2]; simp only [rng]; generalize i / (s - 2) = v at *; omega
    have r3 : -9223372036854775808 ≤ 1 + rem (i : Int) ((s : Int) - 2) ∧ 1 + rem (i : Int) ((s : Int) - 2) ≤ 9223372036854775807 := by rw [u1]; omega
    have r4 : -9223372036854775808 ≤ 1 + quo (i : Int) ((s : Int) - 2) ∧ 1 + quo (i : Int) ((s : Int) - 2) ≤ 9223372036854775807 := by rw [u2]; generalize i / (s - 2) = v at *; omega
    cases hI : mIn s F i with
    | false =>
      rw [hI] at rb
      have gn := mGot_no (s := s) (f := F) (k := i) (Or.inr hI)
      repeat' (first
        | ((with_reducible refine TDr.any ?_); refine TDr.callE env (by first | rfl | assumption) (by rfl) (by rfl) ?_ (rb) (by rfl) (by rfl) ?_)
        | exact r1
        | exact r2
        | exact r3
        | exact r4
        | refine GZp_i_y_o ?_ ?_ ?_ ?_ ?_ ?_ ?_ ?_
        | with_reducible first | exact BzZq.mk | refine Tw.ret ?_ | refine ImZq.i fun h => ?_ | refine IkZq.i fun hk => ?_)
      refine ⟨i + 1, by omega, by omega, TWk.fcanon env [some 0, some 1] (by rfl) ?_⟩
      rw [gn]
      repeat' (first
        | refine GZ_i_y_o ?_ ?_ ?_ ?_ ?_ ?_ ?_ ?_
        | with_reducible first | exact BzZq.mk | refine Tw.ret ?_ | refine ImZq.i fun h => ?_ | refine IkZq.i fun hk => ?_)
    | true =>
      rw [hI] at rb
      have gy := mGot_yes (f := F) (by rw [hAA]; exact hi) hI
      have v1 : quo (i : Int) 8 = ((i / 8 : Nat) : Int) := by rw [quo_nn (by omega)]; omega
      have v2 : rem (i : Int) 8 = ((i % 8 : Nat) : Int) := by rw [rem_nn (by omega)]; omega
      have gb : 0 ≤ (mGot s F i).getD ((quo (i : Int) 8).toNat + 0) 0 ∧ (mGot s F i).getD ((quo (i : Int) 8).toNat + 0) 0 ≤ 255 := by rw [v1, Int.toNat_natCast, Nat.add_zero]; exact mGot_bd (by omega)
      have pb : (0 : Int) ≤ 128 / 2 ^ (rem (i : Int) 8).toNat ∧ (128 : Int) / 2 ^ (rem (i : Int) 8).toNat ≤ 255 := by
        have h2 : (0 : Int) < 2 ^ (rem (i : Int) 8).toNat := Int.pow_pos (by omega)
        exact ⟨Int.ediv_nonneg (by omega) (by omega), Int.le_trans (Int.ediv_le_self _ (by omega)) (by omega)⟩
      have gb2 : rng .u8 ((mGot s F i).getD ((quo (i : Int) 8).toNat + 0) 0) := by simp only [rng]; omega
      have pb2 : rng .u8 ((128 : Int) / 2 ^ (rem (i : Int) 8).toNat) := by simp only [rng]; omega
      rw [show i / 8 = (quo (i : Int) 8).toNat + 0 by rw [v1, Int.toNat_natCast, Nat.add_zero], show i % 8 = (rem (i : Int) 8).toNat by rw [v2, Int.toNat_natCast]] at gy
      repeat' (first
        | ((with_reducible refine TDr.any ?_); refine TDr.callE env (by first | rfl | assumption) (by rfl) (by rfl) ?_ (rb) (by rfl) (by rfl) ?_)
        | exact r1
        | exact r2
        | exact r3
        | exact r4
        | exact gb.1
        | exact pb.1
        | exact gb2
        | exact pb2
        | refine GZy_i_y_o (And.intro v1 (And.intro v2 gl)) ?_ ?_ ?_ ?_ ?_ ?_ ?_ ?_
        | with_reducible first | exact BzZq.mk | refine Tw.ret ?_ | refine ImZq.i fun h => ?_ | refine IkZq.i fun hk => ?_)
      refine ⟨i + 1, by omega, by omega, TWk.fcanon env [some 0, some 1] (by rfl) ?_⟩
      rw [← gy]
      repeat' (first
        | refine GZ_i_y_o ?_ ?_ ?_ ?_ ?_ ?_ ?_ ?_
        | with_reducible first | exact BzZq.mk | refine Tw.ret ?_ | refine ImZq.i fun h => ?_ | refine IkZq.i fun hk => ?_)
  · obtain rfl : i = 8 * A := by omega
    have gw : mGot s F (8 * A) = btab A W := by
      rw [← wd]
      unfold mGot
      rw [hAA]
      exact bm_congr fun x y hx hy => by rw [decide_eq_true (by omega), Bool.true_and]
    rw [gw]
    have va := valid_c W A P (by unfold Due; omega)
    rw [decide_eq_true hW] at va
    have ct : cut (btab A W) 0 A = btab A W := cut_tab
    rw [← ct] at va
    have wl2 : (btab A W).length = A := btab_len
    have w0 : (btab A W).getD 0 0 = m := by
      rw [btab_get (by omega), hW0 0 (by omega)]
      unfold mPlain by8
      rw [if_pos rfl, BitVec.toNat_ofNat]; omega
    have hle : 0 + A ≤ (btab A W).length := by omega
    have tl : (List.take m l).length = m := by rw [List.length_take]; omega
    have sl : cut (btab A W) (Int.toNat 1 + 0) ((1 + ((List.take (m : Int).toNat l).length : Int)).toNat - Int.toNat 1) = List.take (m : Int).toNat l := by
      rw [Int.toNat_natCast, tl, show (1 + (m : Int)).toNat - Int.toNat 1 = m by rw [show (1 + (m : Int)).toNat = 1 + m by omega]; show 1 + m - 1 = m; omega, e1]
      refine is_tab 0 (by show ((List.drop 1 (btab A W)).take m).length = m; rw [List.length_take, List.length_drop]; omega) fun i hi => ?_
      show ((List.drop 1 (btab A W)).take m).getD i 0 = _
      rw [getD_sub hi, btab_get (by omega), hW0 _ (by omega)]
      unfold mPlain
      rw [if_neg (by omega), if_pos (by omega), show 1 + i - 1 = i by omega]
    have tb : ∀ i, i < (List.take (m : Int).toNat l).length → 0 ≤ (List.take (m : Int).toNat l).getD i 0 ∧ (List.take (m : Int).toNat l).getD i 0 ≤ 255 := by
      rw [Int.toNat_natCast, e1, btab_len]
      intro i hi
      rw [btab_get hi]; exact by8_bd _
    have sb := sameBytes_c (List.take (m : Int).toNat l) (List.take (m : Int).toNat l) tb tb
    rw [decide_eq_true rfl] at sb
    have sb2 : TC R Try.prog R2_SameBytes_f [.lst Ey (cut (btab A W) (Int.toNat 1 + 0) ((1 + ((List.take (m : Int).toNat l).length : Int)).toNat - Int.toNat 1)), .lst Ey (List.take (m : Int).toNat l)] [] (fun v X => v = .bool true ∧ X = []) := by rw [sl]; exact sb
    repeat' (first
      | ((with_reducible refine TOps.any ?_); refine TOps.callE env (by rfl) (by rfl) (by rfl) ?_ (va) (by rfl) ?_)
      | exact hle
      | ((with_reducible refine TOps.any ?_); refine TOps.callE env (by rfl) (by rfl) (by rfl) ?_ (sb2) (by rfl) ?_)
      | refine GZy_i_y_o (And.intro wl2 (And.intro w0 tl)) ?_ ?_ ?_ ?_ ?_ ?_ ?_ ?_
      | with_reducible first | exact BzZq.mk | refine Tw.ret ?_ | refine ImZq.i fun h => ?_ | refine IkZq.i fun hk => ?_)
    exact ⟨rfl, rfl, rfl⟩
end Go.Proofs.Ythkilkjngincpaa
