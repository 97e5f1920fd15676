/- The law BitmapSpreads: steps of growth add up, and a union grows as its parts do. -/
import Derived.Test.YtanhalcbghbpaaaBits4
import Derived.Test.YtanhalcbghbpaaaBits5
import Derived.Test.YtanhalcbghbpaaaBitmapW
import Derived.Test.YtanhalcbghbpaaaRBytes
import Derived.Test.YtanhalcbghbpaaaRMod
import Derived.Test.YtanhalcbghbpaaaXBitmapSpreads0
namespace Go.Proofs.Ytanhalcbghbpaaa
open Go Go.Lite
set_option linter.unusedVariables false
set_option linter.unusedSimpArgs false
set_option maxRecDepth 100000
set_option maxHeartbeats 4000000
-- @simp rdi rdy

theorem bytesW {l : List Int} (h : ∀ y ∈ l, Wy y) : ∀ i, i < l.length → 0 ≤ l.getD i 0 ∧ l.getD i 0 ≤ 255 := fun i hi => by
  have hm : l.getD i 0 ∈ l := by
    rw [List.getD_eq_getElem?_getD, List.getElem?_eq_getElem hi]; exact List.getElem_mem hi
  have := h _ hm
  simpa [Wy, rng] using this
theorem or_ok {w k : Nat} {a b : List Int} (oa : BmOk w k a) (ob : BmOk w k b) : BmOk w k (mg bor a b) := by
  rw [ok_is oa, ok_is ob, mg_or]; exact bm_ok oa.w1 oa.h1
theorem px_or {w k : Nat} {a b : List Int} (oa : BmOk w k a) (ob : BmOk w k b) (x y : Int) : px w k (mg bor a b) x y = (px w k a x y || px w k b x y) := by
  by_cases h : 0 ≤ x ∧ x < w ∧ 0 ≤ y ∧ y < k
  · obtain ⟨i, rfl⟩ : ∃ i : Nat, x = i := ⟨x.toNat, by omega⟩
    obtain ⟨j, rfl⟩ : ∃ j : Nat, y = j := ⟨y.toNat, by omega⟩
    have e : mg bor a b = bm w k fun x y => px w k a x y || px w k b x y := by
      conv => lhs; rw [ok_is oa, ok_is ob, mg_or]
    rw [e, px_bm (by omega) (by omega)]
  · rw [px_out h, px_out h, px_out h]; rfl
theorem grD_or {w k : Nat} {a b : List Int} (oa : BmOk w k a) (ob : BmOk w k b) : ∀ n, grD w k n (mg bor a b) = mg bor (grD w k n a) (grD w k n b)
  | 0 => rfl
  | n + 1 => by
    have o1 := grD_ok oa n
    have o2 := grD_ok ob n
    simp only [grD]
    rw [grD_or oa ob n, mg_or]
    refine bm_congr fun x y _ _ => ?_
    simp only [g1, px_or o1 o2]
    generalize px w k (grD w k n a) x y = p1
    generalize px w k (grD w k n a) (x - 1 : Int) y = p2
    generalize px w k (grD w k n a) (x + 1 : Int) y = p3
    generalize px w k (grD w k n a) x (y - 1 : Int) = p4
    generalize px w k (grD w k n a) x (y + 1 : Int) = p5
    generalize px w k (grD w k n b) x y = q1
    generalize px w k (grD w k n b) (x - 1 : Int) y = q2
    generalize px w k (grD w k n b) (x + 1 : Int) y = q3
    generalize px w k (grD w k n b) x (y - 1 : Int) = q4
    generalize px w k (grD w k n b) x (y + 1 : Int) = q5
    revert p1 p2 p3 p4 p5 q1 q2 q3 q4 q5
    decide

theorem BitmapSpreads_law (W H : Int) (a : List Int) (W' H' : Int) (b : List Int) (m0 n0 : Int) (_ : rng .i64 W) (_ : rng .i64 H) (wa : a.length ≤ 9223372036854775807 ∧ ∀ y ∈ a, Wy y) (_ : rng .i64 W') (_ : rng .i64 H') (wb : b.length ≤ 9223372036854775807 ∧ ∀ y ∈ b, Wy y) (_ : rng .i64 m0) (_ : rng .i64 n0) :
    TC R Try.prog K2_BitmapSpreads_f [.agg [.int .i64 W, .int .i64 H, .lst Ey a], .agg [.int .i64 W', .int .i64 H', .lst Ey b], .int .i64 m0, .int .i64 n0] [] (fun v X => v = .bool true ∧ X = []) := by
  rename_i r1 r2 r3 r4 rm rn
  simp only [rng] at rm rn
  have ha := bytesW wa.2
  have hb := bytesW wb.2
  have m1 := rMod_c m0 4 (by unfold Due; omega)
  have m2 := rMod_c n0 4 (by unfold Due; omega)
  obtain ⟨m, hm⟩ : ∃ n : Nat, m0 % 4 = n := ⟨(m0 % 4).toNat, by omega⟩
  obtain ⟨n, hn⟩ : ∃ n : Nat, n0 % 4 = n := ⟨(n0 % 4).toNat, by omega⟩
  rw [hm] at m1
  rw [hn] at m2
  have hm4 : m < 4 := by omega
  have hn4 : n < 4 := by omega
  refine tc0 env K2_BitmapSpreads_s (by rfl) ?_
  dsimp only [K2_BitmapSpreads_c]
  by_cases hc : bitsE W H a = 0
  · obtain ⟨w, h, rfl, rfl, oa⟩ := (bitsE_ok ha).1 hc
    have s1 := spread_c w h a m oa (by unfold Due; omega)
    by_cases he : mgE w h a W' H' b = 0
    · have hb0 : bitsE W' H' b = 0 ∧ (w : Int) = W' ∧ (h : Int) = H' := by
        unfold mgE at he
        rw [if_neg (by simp [hc])] at he
        by_cases h2 : bitsE W' H' b = 0
        · rw [if_neg (by simp [h2])] at he
          by_cases h3 : (w : Int) = W' ∧ (h : Int) = H'
          · exact ⟨h2, h3⟩
          · rw [if_neg h3] at he; cases he
        · rw [if_pos h2] at he; exact absurd he h2
      obtain ⟨w', h', e1, e2, ob⟩ := (bitsE_ok hb).1 hb0.1
      obtain ⟨_, rfl, rfl⟩ := hb0
      obtain rfl : w = w' := by omega
      obtain rfl : h = h' := by omega
      have u1 := bmOr_c w h a b oa ob
      have oM := grD_ok oa m
      have oU := or_ok oa ob
      have s2 := spread_c w h (grD w h m a) n oM (by unfold Due; omega)
      have s3 := spread_c w h a (m + n) oa (by unfold Due; omega)
      have s4 := spread_c w h (mg bor a b) m oU (by unfold Due; omega)
      have s5 := spread_c w h b m ob (by unfold Due; omega)
      have u2 := bmOr_c w h (grD w h m a) (grD w h m b) oM (grD_ok ob m)
      have b1 := sameBits_c w h w h (grD w h n (grD w h m a)) (grD w h (m + n) a) (grD_ok oM n).byte (grD_ok oa _).byte
      rw [decide_eq_true ⟨rfl, rfl, (grD_add m n).symm⟩] at b1
      have b2 := sameBits_c w h w h (grD w h m (mg bor a b)) (mg bor (grD w h m a) (grD w h m b)) (grD_ok oU m).byte (or_ok oM (grD_ok ob m)).byte
      rw [decide_eq_true ⟨rfl, rfl, grD_or oa ob m⟩] at b2
      have em : ((m + n : Nat) : Int) = (m : Int) + n := by omega
      rw [em] at s3
      repeat' (first
        | ((with_reducible refine TOps.any ?_); refine TOps.callV env (by rfl) (by rfl) (by rfl) (bitmapWorks_c) ?_)
        | ((with_reducible refine TOps.any ?_); refine TOps.callV env (by rfl) (by rfl) (by rfl) (m1) ?_)
        | ((with_reducible refine TOps.any ?_); refine TOps.callV env (by rfl) (by rfl) (by rfl) (m2) ?_)
        | ((with_reducible refine TOps.any ?_); refine TOps.callV env (by rfl) (by rfl) (by rfl) (s1) ?_)
        | ((with_reducible refine TOps.any ?_); refine TOps.callV env (by rfl) (by rfl) (by rfl) (u1) ?_)
        | ((with_reducible refine TOps.any ?_); refine TOps.callV env (by rfl) (by rfl) (by rfl) (s2) ?_)
        | ((with_reducible refine TOps.any ?_); refine TOps.callV env (by rfl) (by rfl) (by rfl) (s3) ?_)
        | ((with_reducible refine TOps.any ?_); refine TOps.callV env (by rfl) (by rfl) (by rfl) (s4) ?_)
        | ((with_reducible refine TOps.any ?_); refine TOps.callV env (by rfl) (by rfl) (by rfl) (s5) ?_)
        | ((with_reducible refine TOps.any ?_); refine TOps.callV env (by rfl) (by rfl) (by rfl) (u2) ?_)
        | ((with_reducible refine TOps.any ?_); refine TOps.callE env (by rfl) (by rfl) (by rfl) ?_ (b1) (by rfl) ?_)
        | ((with_reducible refine TOps.any ?_); refine TOps.callE env (by rfl) (by rfl) (by rfl) ?_ (b2) (by rfl) ?_)
        | with_reducible first | refine Tw.seq ?_ | refine Tw.reg ?_ | refine Tw.block ?_ | refine Tw.scope ?_ | refine Tw.skip ?_ | refine Tw.exit ?_ | refine Tw.ret ?_ | refine seqN ?_ | refine seqR ?_ | refine seqE ?_ | refine rndN ?_ | refine blkN ?_ | refine blkR ?_ | refine blkE1 ?_ | refine blkE0 (by kernel_rfl) ?_ | refine scpN ?_ | refine scpR ?_ | refine scpE ?_ | refine TOps.nil ?_ | exact Conj.nil | refine Conj.cons rfl ?_ | refine Conj.same ?_ | refine Conj.ask ?_ ?_ | refine Tw.regd env ?_ | refine TDr.nil ⟨by kernel_rfl, ?_⟩
        | ((with_reducible refine TOps.any ?_); first | refine TOps.frunP env (by rfl) (by rfl) ?_ ?_ | (refine TOps.known (by rfl) ?_; refine TOps.strip env (by rfl) (by rfl) ?_ ?_) | refine TOps.on (by rfl) (by rfl) ?_)
        | ((with_reducible refine TDr.any ?_); refine TDr.frunP env (by rfl) (by rfl) ?_ ?_)
        | ((with_reducible refine Tw.any ?_); first | refine Tw.condT (by rfl) ?_ | refine Tw.condF (by rfl) ?_)
        | ((first | ((with_reducible refine TOps.any ?_); (fail_if_success refine TOps.known (by rfl) ?_); refine TOps.ask (by rfl) (fun h => ?_) (fun h => ?_)) | ((with_reducible refine TDr.any ?_); (fail_if_success refine TDr.known (by first | rfl | assumption) ?_); refine TDr.ask (by rfl) (fun h hk => ?_) (fun h => ?_)) | ((with_reducible refine Tw.any ?_); refine Tw.cond (by rfl) (fun h => ?_) (fun h => ?_))) <;> (try simp only [goS] at h) <;> (try simp only [rdi, rdy, Int.toNat_natCast, Nat.add_zero] at h) <;> (try (exfalso; (try simp only [goP, reduceCtorEq] at h) <;> (first | assumption | omega | contradiction | (rcases h with ⟨_, _⟩ <;> first | contradiction | omega) | (rcases h with h | h <;> first | contradiction | omega)))))
        | ((with_reducible refine tret.any ?_); first | refine tret.ok (by rfl) ?_ | refine tret.okN (by rfl) ?_)
        | ((with_reducible refine Due.mk ?_); (first | with_reducible rfl | omega | assumption | decide | ((try simp only [goS] at *) <;> (try intro h) <;> (try intro h') <;> (try simp only [goS] at *) <;> (try simp only [rdi, rdy, Int.toNat_natCast, Nat.add_zero] at *) <;> (try simp only [rng]) <;> (first | assumption | omega)) | (exact due_app0 (by omega)) | (exact due_app (by omega)) | (intros; simp; done) | (intros; simp; omega)))
        | with_reducible refine Due.mk ?_
        | omega)
      all_goals exact ⟨rfl, congrArg TV.bool (by simp), rfl⟩
    · have u1 := bmOr_n w h W' H' a b ha hb he
      have nb := noBits_c w h (grD w h m a)
      have hw := oa.w1
      rw [decide_eq_false (by omega)] at nb
      repeat' (first
        | ((with_reducible refine TOps.any ?_); refine TOps.callV env (by rfl) (by rfl) (by rfl) (bitmapWorks_c) ?_)
        | ((with_reducible refine TOps.any ?_); refine TOps.callV env (by rfl) (by rfl) (by rfl) (m1) ?_)
        | ((with_reducible refine TOps.any ?_); refine TOps.callV env (by rfl) (by rfl) (by rfl) (m2) ?_)
        | ((with_reducible refine TOps.any ?_); refine TOps.callV env (by rfl) (by rfl) (by rfl) (s1) ?_)
        | ((with_reducible refine TOps.any ?_); refine TOps.callV env (by rfl) (by rfl) (by rfl) (u1) ?_)
        | ((with_reducible refine TOps.any ?_); refine TOps.callE env (by rfl) (by rfl) (by rfl) ?_ (nb) (by rfl) ?_)
        | ((with_reducible refine TOps.any ?_); refine TOps.callE env (by rfl) (by rfl) (by rfl) ?_ (noBits0_c) (by rfl) ?_)
        | with_reducible first | refine Tw.seq ?_ | refine Tw.reg ?_ | refine Tw.block ?_ | refine Tw.scope ?_ | refine Tw.skip ?_ | refine Tw.exit ?_ | refine Tw.ret ?_ | refine seqN ?_ | refine seqR ?_ | refine seqE ?_ | refine rndN ?_ | refine blkN ?_ | refine blkR ?_ | refine blkE1 ?_ | refine blkE0 (by kernel_rfl) ?_ | refine scpN ?_ | refine scpR ?_ | refine scpE ?_ | refine TOps.nil ?_ | exact Conj.nil | refine Conj.cons rfl ?_ | refine Conj.same ?_ | refine Conj.ask ?_ ?_ | refine Tw.regd env ?_ | refine TDr.nil ⟨by kernel_rfl, ?_⟩
        | ((with_reducible refine TOps.any ?_); first | refine TOps.frunP env (by rfl) (by rfl) ?_ ?_ | (refine TOps.known (by rfl) ?_; refine TOps.strip env (by rfl) (by rfl) ?_ ?_) | refine TOps.on (by rfl) (by rfl) ?_)
        | ((with_reducible refine TDr.any ?_); refine TDr.frunP env (by rfl) (by rfl) ?_ ?_)
        | ((with_reducible refine Tw.any ?_); first | refine Tw.condT (by rfl) ?_ | refine Tw.condF (by rfl) ?_)
        | ((first | ((with_reducible refine TOps.any ?_); (fail_if_success refine TOps.known (by rfl) ?_); refine TOps.ask (by rfl) (fun h => ?_) (fun h => ?_)) | ((with_reducible refine TDr.any ?_); (fail_if_success refine TDr.known (by first | rfl | assumption) ?_); refine TDr.ask (by rfl) (fun h hk => ?_) (fun h => ?_)) | ((with_reducible refine Tw.any ?_); refine Tw.cond (by rfl) (fun h => ?_) (fun h => ?_))) <;> (try simp only [goS] at h) <;> (try simp only [rdi, rdy, Int.toNat_natCast, Nat.add_zero] at h) <;> (try (exfalso; (try simp only [goP, reduceCtorEq] at h) <;> (first | assumption | omega | contradiction | (rcases h with ⟨_, _⟩ <;> first | contradiction | omega) | (rcases h with h | h <;> first | contradiction | omega)))))
        | ((with_reducible refine tret.any ?_); first | refine tret.ok (by rfl) ?_ | refine tret.okN (by rfl) ?_)
        | ((with_reducible refine Due.mk ?_); (first | with_reducible rfl | omega | assumption | decide | ((try simp only [goS] at *) <;> (try intro h) <;> (try intro h') <;> (try simp only [goS] at *) <;> (try simp only [rdi, rdy, Int.toNat_natCast, Nat.add_zero] at *) <;> (try simp only [rng]) <;> (first | assumption | omega)) | (exact due_app0 (by omega)) | (exact due_app (by omega)) | (intros; simp; done) | (intros; simp; omega)))
        | with_reducible refine Due.mk ?_
        | omega)
      all_goals exact ⟨rfl, congrArg TV.bool (by simp), rfl⟩
  · have s1 := spread_n W H a m ha hc
    have he : mgE W H a W' H' b = bitsE W H a := by unfold mgE; rw [if_pos hc]
    have u1 := bmOr_n W H W' H' a b ha hb (by rw [he]; exact hc)
    rw [he] at u1
    repeat' (first
      | ((with_reducible refine TOps.any ?_); refine TOps.callV env (by rfl) (by rfl) (by rfl) (bitmapWorks_c) ?_)
      | ((with_reducible refine TOps.any ?_); refine TOps.callV env (by rfl) (by rfl) (by rfl) (m1) ?_)
      | ((with_reducible refine TOps.any ?_); refine TOps.callV env (by rfl) (by rfl) (by rfl) (m2) ?_)
      | ((with_reducible refine TOps.any ?_); refine TOps.callV env (by rfl) (by rfl) (by rfl) (s1) ?_)
      | ((with_reducible refine TOps.any ?_); refine TOps.callV env (by rfl) (by rfl) (by rfl) (u1) ?_)
      | ((with_reducible refine TOps.any ?_); refine TOps.callE env (by rfl) (by rfl) (by rfl) ?_ (noBits0_c) (by rfl) ?_)
      | with_reducible first | refine Tw.seq ?_ | refine Tw.reg ?_ | refine Tw.block ?_ | refine Tw.scope ?_ | refine Tw.skip ?_ | refine Tw.exit ?_ | refine Tw.ret ?_ | refine seqN ?_ | refine seqR ?_ | refine seqE ?_ | refine rndN ?_ | refine blkN ?_ | refine blkR ?_ | refine blkE1 ?_ | refine blkE0 (by kernel_rfl) ?_ | refine scpN ?_ | refine scpR ?_ | refine scpE ?_ | refine TOps.nil ?_ | exact Conj.nil | refine Conj.cons rfl ?_ | refine Conj.same ?_ | refine Conj.ask ?_ ?_ | refine Tw.regd env ?_ | refine TDr.nil ⟨by kernel_rfl, ?_⟩
      | ((with_reducible refine TOps.any ?_); first | refine TOps.frunP env (by rfl) (by rfl) ?_ ?_ | (refine TOps.known (by rfl) ?_; refine TOps.strip env (by rfl) (by rfl) ?_ ?_) | refine TOps.on (by rfl) (by rfl) ?_)
      | ((with_reducible refine TDr.any ?_); refine TDr.frunP env (by rfl) (by rfl) ?_ ?_)
      | ((with_reducible refine Tw.any ?_); first | refine Tw.condT (by rfl) ?_ | refine Tw.condF (by rfl) ?_)
      | ((first | ((with_reducible refine TOps.any ?_); (fail_if_success refine TOps.known (by rfl) ?_); refine TOps.ask (by rfl) (fun h => ?_) (fun h => ?_)) | ((with_reducible refine TDr.any ?_); (fail_if_success refine TDr.known (by first | rfl | assumption) ?_); refine TDr.ask (by rfl) (fun h hk => ?_) (fun h => ?_)) | ((with_reducible refine Tw.any ?_); refine Tw.cond (by rfl) (fun h => ?_) (fun h => ?_))) <;> (try simp only [goS] at h) <;> (try simp only [rdi, rdy, Int.toNat_natCast, Nat.add_zero] at h) <;> (try (exfalso; (try simp only [goP, reduceCtorEq] at h) <;> (first | assumption | omega | contradiction | (rcases h with ⟨_, _⟩ <;> first | contradiction | omega) | (rcases h with h | h <;> first | contradiction | omega)))))
      | ((with_reducible refine tret.any ?_); first | refine tret.ok (by rfl) ?_ | refine tret.okN (by rfl) ?_)
      | ((with_reducible refine Due.mk ?_); (first | with_reducible rfl | omega | assumption | decide | ((try simp only [goS] at *) <;> (try intro h) <;> (try intro h') <;> (try simp only [goS] at *) <;> (try simp only [rdi, rdy, Int.toNat_natCast, Nat.add_zero] at *) <;> (try simp only [rng]) <;> (first | assumption | omega)) | (exact due_app0 (by omega)) | (exact due_app (by omega)) | (intros; simp; done) | (intros; simp; omega)))
      | with_reducible refine Due.mk ?_
      | omega)
    all_goals exact ⟨rfl, congrArg TV.bool (by simp), rfl⟩
end Go.Proofs.Ytanhalcbghbpaaa
