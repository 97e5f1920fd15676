/- Links from a device to itself: Build; the tones at a node. -/
import Derived.Test.YtkapjajlkpepmaaDls2
import Derived.Test.YtkapjajlkpepmaaDlk3
import Derived.Test.YtkapjajlkpepmaaGo
namespace Go.Proofs.Ytkapjajlkpepmaa
open Go Go.Lite
set_option linter.unusedVariables false
set_option linter.unusedSimpArgs false
set_option maxRecDepth 100000
set_option maxHeartbeats 4000000
-- @simp rdi rd2i rdL2iJ

theorem sz_shape {n sz st : Nat} (hz : szOk sz st) (hn : 1 ≤ n ∧ n ≤ 4) (h : ¬ 256 < sz ^ n) : shapeE n n sz = 0 := by
  unfold szOk at hz
  have hb : sz ^ n * n ≤ 256 * 4 := Nat.mul_le_mul (by omega) hn.2
  have e : (sz : Int) ^ (n : Int).toNat * (n : Int) = ((sz ^ n * n : Nat) : Int) := by rw [Int.toNat_natCast]; simp
  unfold shapeE
  rw [if_neg (by omega), if_pos (by omega), if_neg (by rw [e]; omega)]
/-- The values of the link. -/
def lnkV (n sz : Nat) (f : (Nat → Nat) → List Nat) : List Int := tab (n * sz ^ n) (gvals n sz n fun y o => ((256 * (f y).getD o 0 : Nat) : Int))
def NodesOk (p : Prf) (n s sz st : Nat) (f : (Nat → Nat) → List Nat) : Prop := ∀ y, (∀ k, k < n → y k < sz) → NodeOk p n s st y (f y)
theorem nodes_ex (p : Prf) (n s sz st : Nat) (h : PrfOk p n s) (hz : szOk sz st) : ∃ f, NodesOk p n s sz st f := by
  have ex : ∀ y : Nat → Nat, ∃ zs : List Nat, (∀ k, k < n → y k < sz) → NodeOk p n s st y zs := fun y => by
    by_cases hy : ∀ k, k < n → y k < sz
    · obtain ⟨zs, hzs⟩ := node_ex p n s sz st h hz y hy
      exact ⟨zs, fun _ => hzs⟩
    · exact ⟨[], fun h => absurd h hy⟩
  exact ⟨fun y => (ex y).choose, fun y hy => (ex y).choose_spec hy⟩
theorem lnk_ok {p : Prf} {n s sz st : Nat} {f : (Nat → Nat) → List Nat} (hf : NodesOk p n s sz st f) (hz : szOk sz st) (hn : 1 ≤ n ∧ n ≤ 4) (h : ¬ 256 < sz ^ n) : GOk n n sz (lnkV n sz f) ∧ inFull (lnkV n sz f) := by
  have szb : sz = 2 ∨ sz = 4 ∨ sz = 6 := by unfold szOk at hz; omega
  have hb : sz ^ n * n ≤ 256 * 4 := Nat.mul_le_mul (by omega) hn.2
  have full : inFull (lnkV n sz f) := fun v hv => by
    obtain ⟨i, hi, rfl⟩ := mem_getD (d := 0) hv
    unfold lnkV at hi ⊢
    rw [tab_len] at hi
    rw [tab_get hi]
    have hd : ∀ k, k < n → dg sz n (i / n) k < sz := fun k _ => dg_lt (by omega)
    have := (hf _ hd).bd (i % n) (Nat.mod_lt _ (by omega))
    show 0 ≤ ((256 * (f (dg sz n (i / n))).getD (i % n) 0 : Nat) : Int) ∧ ((256 * (f (dg sz n (i / n))).getD (i % n) 0 : Nat) : Int) ≤ 65280
    omega
  refine ⟨⟨hn, by omega, by omega, by omega, by unfold lnkV; rw [tab_len, Nat.mul_comm], fun v hv => ?_⟩, full⟩
  have := full v hv
  omega
theorem lnk_at {p : Prf} {n s sz st : Nat} {f : (Nat → Nat) → List Nat} (hf : NodesOk p n s sz st f) (hz : szOk sz st) (hn : 1 ≤ n ∧ n ≤ 4) {y : Nat → Nat} (hy : ∀ k, k < n → y k < sz) :
    ∃ zs, NodeOk p n s st y zs ∧ dlQ (lnkV n sz f) n sz (ownT n st y) = nz zs := by
  have szb : sz = 2 ∨ sz = 4 ∨ sz = 6 := by unfold szOk at hz; omega
  have gs : gstep sz = 256 * st := by rcases hz with ⟨rfl, rfl⟩ | ⟨rfl, rfl⟩ | ⟨rfl, rfl⟩ <;> decide
  have stp : 51 ≤ st := by unfold szOk at hz; omega
  obtain ⟨y', hy'⟩ : ∃ y', y' = dg sz n (ndx sz 0 (tab n y)) := ⟨_, rfl⟩
  have ey : ∀ k, k < n → y' k = y k := fun k hk => by rw [hy']; exact dg_ndx (by omega) hy k hk
  have ho : ownT n st y' = ownT n st y := tab_congr fun k hk => by rw [ey k hk]
  have nk := hf y' fun k hk => by rw [ey k hk]; exact hy k hk
  have nk2 : NodeOk p n s st y (f y') := ⟨nk.len, nk.bd, by rw [← ho]; exact nk.far, by have := nk.tc; unfold qOf at this ⊢; rw [← ho]; exact this⟩
  refine ⟨f y', nk2, ?_⟩
  unfold dlQ
  refine (is_tab 0 (by rw [nz_len]; exact nk2.len) fun o ho2 => ?_).symm
  rw [nz_get]
  have gv : dlV (lnkV n sz f) n sz (ownT n st y) o = (gstep sz : Int) * ((256 * (f y').getD o 0 : Nat) : Int) := by
    unfold dlV graw
    refine sumN_const fun t ht => ?_
    have e : List.map (fun x => (x + t) / gstep sz) (List.map (256 * ·) (ownT n st y)) = tab n y := by
      unfold ownT tab
      rw [List.map_map, List.map_map]
      refine List.map_congr_left fun k hk => ?_
      show (256 * (y k * st) + t) / gstep sz = y k
      rw [gs] at ht ⊢
      rw [show 256 * (y k * st) = 256 * st * y k by rw [Nat.mul_comm (y k) st, Nat.mul_assoc], Nat.mul_add_div (by omega), Nat.div_eq_of_lt ht, Nat.add_zero]
    rw [e]
    unfold gnode lnkV
    have hlt := ndx_in (s := sz) (inn := n) hy
    have hi : ndx sz 0 (tab n y) * n + o < n * sz ^ n := by
      have h1 : (ndx sz 0 (tab n y) + 1) * n ≤ sz ^ n * n := Nat.mul_le_mul_right _ hlt
      rw [Nat.add_mul, Nat.mul_comm (sz ^ n)] at h1
      omega
    rw [tab_get hi, Nat.mul_comm (ndx sz 0 (tab n y)) n, gvals_at ho2, ← hy']
  rw [gv]
  have d : (gstep sz : Int) * ((256 * (f y').getD o 0 : Nat) : Int) = (((f y').getD o 0 : Nat) : Int) * ((256 * gstep sz : Nat) : Int) := by
    rw [Int.natCast_mul, Int.natCast_mul, ← Int.mul_assoc, Int.mul_comm]
    rw [show (gstep sz : Int) * ((256 : Nat) : Int) = ((256 : Nat) : Int) * (gstep sz : Int) from Int.mul_comm _ _]
  rw [d, near_full (by omega)]
theorem build_y (p : Prf) (n s sz st : Nat) (w : PrfW p) (h0 : prfE p = 0) (h : PrfOk p n s) (hz : szOk sz st) (hb : ¬ 256 < sz ^ n) (f : (Nat → Nat) → List Nat) (hf : NodesOk p n s sz st f) :
    TC R Try.prog devicelink_Build_f [.agg (encP p), .agg (encP p), .agg [.int .i64 sz, .int .i64 st, .int .i64 2040, .bool false, .int .i64 0, .int .i64 0, .int .i64 0]] []
    (fun v X => v = .tup [.agg [.int .i64 n, .int .i64 n, .int .i64 sz, .lst Ei (lnkV n sz f)], .int .i64 0] ∧ X = []) := by
  have pc := prfCheck_c p w
  rw [h0] at pc
  have gi := h.g.i1
  have il := h.il
  have dc := dcheck_c p n s sz st h hz
  rw [if_neg hb] at dc
  have mk := makeLnk_c n n sz sz st p (fun y => nz (ownT n st y)) (fun y o => ((256 * (f y).getD o 0 : Nat) : Int)) (sz_shape hz gi hb)
    (fun y hy o ho => by have := (hf y hy).bd o ho; omega) (fun y hy => node_c p n s sz st h hz y hy (f y) (hf y hy))
  have ll : (lnkV n sz f).length = n * sz ^ n := tab_len
  have l2 : 0 + n * sz ^ n ≤ (lnkV n sz f).length := by omega
  rw [show tab (n * sz ^ n) (gvals n sz n fun y o => ((256 * (f y).getD o 0 : Nat) : Int)) = lnkV n sz f from rfl] at mk
  rw [← il] at mk
  refine tc0 env devicelink_Build_s (by rfl) ?_
  dsimp only [devicelink_Build_c, encP]
  rw [← il] at l2
  repeat' (first
    | ((with_reducible refine TOps.any ?_); refine TOps.callV env (by rfl) (by rfl) (by rfl) (pc) ?_)
    | ((with_reducible refine TOps.any ?_); refine TOps.callE env (by rfl) (by rfl) (by rfl) ?_ (dc) (by rfl) ?_)
    | ((with_reducible refine TOps.any ?_); refine TOps.callE env (by rfl) (by rfl) (by rfl) ?_ (mk) (by rfl) ?_)
    | exact l2
    | ((with_reducible refine Tw.retI ?_); refine Tw.frz env 4 (by rfl) (by rfl) (by rfl) ?_ ?_ (Tw.ret ?_))
    | refine GZp_i_2i_L2iJ ?_ ?_ ?_ ?_ ?_ ?_ ?_ ?_
    | with_reducible first | exact BzZq.mk | refine Tw.ret ?_ | refine ImZq.i fun h => ?_ | refine IkZq.i fun hk => ?_)
  all_goals first | exact l2 | skip
  rw [il, cut_all ll.symm]
  exact ⟨rfl, rfl, rfl⟩
theorem build_n (p : Prf) (sz st : Nat) (w : PrfW p) (hz : szOk sz st) (h : prfE p ≠ 0 ∨ ∃ n s, PrfOk p n s ∧ 256 < sz ^ n) :
    ∃ e, e ≠ 0 ∧ TC R Try.prog devicelink_Build_f [.agg (encP p), .agg (encP p), .agg [.int .i64 sz, .int .i64 st, .int .i64 2040, .bool false, .int .i64 0, .int .i64 0, .int .i64 0]] []
    (fun v X => v = .tup [.agg [.int .i64 0, .int .i64 0, .int .i64 0, .nils], .int .i64 e] ∧ X = []) := by
  have pc := prfCheck_c p w
  by_cases h0 : prfE p = 0
  · obtain ⟨n, s, ok, hb⟩ := h.resolve_left (fun h => h h0)
    have dc := dcheck_c p n s sz st ok hz
    rw [if_pos hb] at dc
    rw [h0] at pc
    refine ⟨2, by decide, ?_⟩
    refine tc0 env devicelink_Build_s (by rfl) ?_
    dsimp only [devicelink_Build_c, encP]
    repeat' (first
      | ((with_reducible refine TOps.any ?_); refine TOps.callV env (by rfl) (by rfl) (by rfl) (pc) ?_)
      | ((with_reducible refine TOps.any ?_); refine TOps.callE env (by rfl) (by rfl) (by rfl) ?_ (dc) (by rfl) ?_)
      | refine GZp_i_2i_L2iJ ?_ ?_ ?_ ?_ ?_ ?_ ?_ ?_
      | with_reducible first | exact BzZq.mk | refine Tw.ret ?_ | refine ImZq.i fun h => ?_ | refine IkZq.i fun hk => ?_)
    exact ⟨rfl, rfl, rfl⟩
  · refine ⟨prfE p, h0, ?_⟩
    refine tc0 env devicelink_Build_s (by rfl) ?_
    dsimp only [devicelink_Build_c, encP]
    repeat' (first
      | ((with_reducible refine TOps.any ?_); refine TOps.callV env (by rfl) (by rfl) (by rfl) (pc) ?_)
      | refine GZp_i_2i_L2iJ ?_ ?_ ?_ ?_ ?_ ?_ ?_ ?_
      | with_reducible first | exact BzZq.mk | refine Tw.ret ?_ | refine ImZq.i fun h => ?_ | refine IkZq.i fun hk => ?_)
    exact ⟨rfl, rfl, rfl⟩
end Go.Proofs.Ytkapjajlkpepmaa
