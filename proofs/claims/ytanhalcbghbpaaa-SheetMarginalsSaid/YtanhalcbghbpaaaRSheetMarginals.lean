import Derived.Test.YtanhalcbghbpaaaSheetMarginalsZ
import Derived.Test.YtanhalcbghbpaaaLiteTM
import Derived.SizedLaws
namespace Go.Proofs.Ytanhalcbghbpaaa.rdSheetMarginals
open Go Go.Lite Go.Proofs.Ytanhalcbghbpaaa
set_option linter.unusedVariables false
set_option maxRecDepth 100000

theorem uT3 : Try.prog.underlying 3 = some (.int .i64) := by kernel_rfl
theorem rdT3 (n : Nat) (ls : List LV) (h : Shp Try.prog (n + 1) 3 ls) : ∃ a : Int, (rng .i64 a) ∧ LessL [.int .i64 (a)] ls := by
  obtain ⟨x, rfl, w⟩ := shp_int uT3 h
  exact ⟨x, wf_rng w, .one (.free rfl)⟩
theorem uT5 : Try.prog.underlying 5 = some (.int .u8) := by kernel_rfl
theorem rdT5 (n : Nat) (ls : List LV) (h : Shp Try.prog (n + 1) 5 ls) : ∃ a : Int, (rng .u8 a) ∧ LessL [.int .u8 (a)] ls := by
  obtain ⟨x, rfl, w⟩ := shp_int uT5 h
  exact ⟨x, wf_rng w, .one (.free rfl)⟩
theorem uT26 : Try.prog.underlying 26 = some (.slice 5) := by kernel_rfl
theorem zT26 : Try.prog.cellsOf 5 = R.sz 2 := by kernel_rfl
theorem rdT26 (n : Nat) (ls : List LV) (h : Shp Try.prog (n + 2) 26 ls) : ∃ a : List (Int), ((List.length a ≤ 9223372036854775807 ∧ ∀ y ∈ a, Wy y)) ∧ LessL [emb R (.lst 2 (a))] ls := by
  exact shp_slice (R := R) (e := 2) (ok := Wy) uT26 zT26 (rdT5 (n + 0)) h
theorem uT28 : fieldsT Try.prog 28 = some [3, 3, 26] := by kernel_rfl
theorem rdT28 (n : Nat) (ls : List LV) (h : Shp Try.prog (n + 3) 28 ls) : ∃ a : Int × Int × List (Int), (rng .i64 a.1 ∧ rng .i64 a.2.1 ∧ (List.length a.2.2 ≤ 9223372036854775807 ∧ ∀ y ∈ a.2.2, Wy y)) ∧ LessL [.int .i64 (a.1), .int .i64 (a.2.1), emb R (.lst 2 (a.2.2))] ls := by
  obtain ⟨_, _, rfl, h0, _, _, rfl, h1, _, _, rfl, h2, rfl⟩ := shp_fields uT28 h
  obtain ⟨a0, w0, l0⟩ := rdT3 (n + 1) _ h0
  obtain ⟨a1, w1, l1⟩ := rdT3 (n + 1) _ h1
  obtain ⟨a2, w2, l2⟩ := rdT26 (n + 0) _ h2
  exact ⟨(a0, a1, a2), ⟨w0, w1, w2⟩, (l0.app (l1.app (l2.app .nil)))⟩

theorem uT38 : Try.prog.underlying 38 = some (.slice 28) := by kernel_rfl
theorem zT38 : Try.prog.cellsOf 28 = R.sz 3 := by kernel_rfl
theorem rdT38 (n : Nat) (ls : List LV) (h : Shp Try.prog (n + 4) 38 ls) : ∃ a : List (Int × Int × List (Int)), ((List.length a ≤ 9223372036854775807 ∧ ∀ y ∈ a, W2iLyJ y)) ∧ LessL [emb R (.lst 3 (a))] ls := by
  exact shp_slice (R := R) (e := 3) (ok := W2iLyJ) uT38 zT38 (rdT28 (n + 0)) h

/-- A slice's length is bounded by the form's own reach. -/
def SizA (P : Program) : List TypeId → List LV → Prop
  | t :: ts, x :: r => (∀ e c len cs, P.underlying t = some (.slice e) → x = .ps c len cs → len * P.bytesOf e ≤ reachBytes) ∧ SizA P ts r
  | _, _ => True
section
variable {H : Type} {enc : TypeId × Value → H} {P : Program} {w : World} {sp : Nat → Bool} {held : Bool} {base : Nat}
theorem trod_sz0 {t e : TypeId} (hu : P.underlying t = some (.slice e)) {fuel : Nat} {cs : List Value} {x : DataW H × List MemPlace} (h : DataW.trod enc P w 0 sp held (fuel + 1) t cs = some x) :
    cs = [.slice none 0 0] ∨ ∃ a len cap, cs = [.slice (some a) len cap] ∧ ∃ elems spare, x.1 = .slice elems spare ∧ elems.length = len := by
  unfold DataW.trod at h
  rw [hu] at h
  split at h
  all_goals try (simp_all; done)
  rename_i e' a len cap hc
  obtain rfl : e = e' := by simpa using hc
  refine .inr ⟨a, len, cap, rfl, ?_⟩
  split at h
  · obtain ⟨ys, h3, h4⟩ := Option.bind_eq_some_iff.1 h
    obtain ⟨g1, g2⟩ := mapM_opt h3
    obtain ⟨zs, h5, h6⟩ := Option.map_eq_some_iff.1 h4
    exact ⟨_, _, (congrArg Prod.fst h6).symm, by simpa using g1⟩
  · cases h
theorem trod_sz {t e : TypeId} (hu : P.underlying t = some (.slice e)) {fuel : Nat} {a : Option Addr} {len cap : Nat} {d : DataW H} {ps : List MemPlace} (h : DataW.trod enc P w 0 sp held fuel t [.slice a len cap] = some (d, ps)) : len = 0 ∨ ∃ elems spare, d = .slice elems spare ∧ elems.length = len := by
  cases fuel with
  | zero => simp [DataW.trod] at h
  | succ fuel =>
    rcases trod_sz0 hu h with h1 | ⟨a', len', cap', h1, h2⟩
    · simp only [List.cons.injEq, Value.slice.injEq] at h1
      exact .inl h1.1.2.1
    · simp only [List.cons.injEq, Value.slice.injEq] at h1
      obtain ⟨⟨_, rfl, _⟩, _⟩ := h1
      exact .inr h2
theorem siz_of : ∀ (ts : List TypeId) (vs : List Value) (ds : List (DataW H)) (ps : List MemPlace) (xs : List LV),
    DataW.TrodAll enc P w 0 sp held ts vs ds ps → VL w [] (fun b => b < w.heap.size) xs vs → (DataW.weightsEach P ts ds).all (· ≤ reachBytes) = true → SizA P ts xs := by
  intro ts
  induction ts with
  | nil => intro vs ds ps xs _ _ _; cases xs <;> trivial
  | cons t ts ih =>
    intro vs ds ps xs h hl hz
    match vs, ds, xs, h, hl with
    | v :: vs, d :: ds, x :: xs, h, hl =>
      obtain ⟨p, q, h1, h2, rfl⟩ := h
      have hz' := hz
      simp only [DataW.weightsEach, List.all_append, Bool.and_eq_true] at hz
      refine ⟨fun e c len cs hu hx => ?_, ih vs ds q xs h2 ⟨by have := hl.1; simpa using this, fun i hi => by have := hl.2 (i + 1) (by simpa using hi); simpa using this⟩ hz.2⟩
      subst hx
      have hv := hl.2 0 (by simp)
      obtain ⟨fuel, h1⟩ := h1
      have key : ∀ a cap, v = .slice a len cap → len * P.bytesOf e ≤ reachBytes := fun a cap hv => by
        subst hv
        rcases trod_sz hu h1 with rfl | ⟨el, s, rfl, rfl⟩
        · simp
        · have := sized_slice (j := 0) hz' rfl rfl hu
          exact Nat.le_trans (Nat.mul_le_mul_right _ (Nat.le_add_right _ _)) this
      simp only [List.getD_cons_zero] at hv
      cases hv with
      | psz => exact key _ _ rfl
      | ps => exact key _ _ rfl
    | _, _, [], h, hl => trivial
end
theorem shp_sliceZ {P : Program} {t : TypeId} {n : Nat} {A : Nat → Type} {R : Reg A} {e : Nat} {te : TypeId} {ok : A e → Prop} (hu : P.underlying t = some (.slice te)) (hsz : P.cellsOf te = R.sz e) (hel : ∀ ls, Shp P n te ls → ∃ a, ok a ∧ LessL (R.encL e a) ls) {ls : List LV} (h : Shp P (n + 1) t ls) :
    ∃ xs : List (A e), (xs.length ≤ maxLen ∧ ∀ x ∈ xs, ok x) ∧ LessL [emb R (.lst e xs)] ls ∧ (xs.length = 0 ∨ ∃ c cs, ls = [.ps c xs.length cs]) := by
  simp only [Shp, hu] at h
  rcases h with rfl | ⟨len, cs, rfl, hl, hr⟩
  · exact ⟨[], ⟨by simp, fun x hx => by simp at hx⟩, .one .psnil, .inl rfl⟩
  · obtain ⟨xs, h1, h2, h3⟩ := rpt_read hel len cs hr
    refine ⟨xs, ⟨by omega, h2⟩, .one ?_, .inr ⟨_, cs, by rw [h1]⟩⟩
    simp only [emb, h1, hsz]
    exact .ps h3
theorem any (xs : List LV) (h : ShpA Try.prog 8 Try.f11.params.toList xs) (hz : SizA Try.prog Try.f11.params.toList xs) : LC Try.prog 11 xs [] fun x _ => x = .bool true := by
  rw [show Try.f11.params.toList = [38, 3] by kernel_rfl] at h hz
  obtain ⟨_, _, rfl, h0, _, _, rfl, h1, rfl⟩ := h
  obtain ⟨a0, w0, l0, s0⟩ := shp_sliceZ (R := R) (e := 3) (ok := W2iLyJ) uT38 zT38 (rdT28 (4 + 0)) (shpv_slice uT38 h0)
  obtain ⟨a1, rfl, w1⟩ := shpv_int uT3 h1
  have z0 : 40 * a0.length ≤ 140737488351232 := by
    rcases s0 with h | ⟨c, cs, h⟩
    · omega
    · have := hz.1 28 c _ cs uT38 (List.cons.inj h).1
      rw [show Try.prog.bytesOf 28 = 40 by kernel_rfl] at this
      unfold reachBytes at this; omega
  exact (SheetMarginals_law (a0) a1 (w0) (wf_rng w1) z0).less (LessL.app l0 (LessL.app (.one (.free rfl)) .nil))

end Go.Proofs.Ytanhalcbghbpaaa.rdSheetMarginals
