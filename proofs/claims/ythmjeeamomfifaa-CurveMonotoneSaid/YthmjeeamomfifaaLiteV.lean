/- Lite, part V: the frame of a law that changes nothing, for any plain arguments. -/
import Derived.Test.YthmjeeamomfifaaLiteU
import Derived.Carry
namespace Go.Lite
open Go Go.RowKit Go.ChangeShapes
set_option linter.unusedVariables false

/-- A value of this type, as an argument. -/
def ShpV (P : Program) (n : Nat) (t : TypeId) (x : LV) : Prop :=
  match P.underlying t with
  | some (.struct _) | some (.array _ _) => ∃ ls, x = .agg ls ∧ Shp P n t ls
  | _ => Shp P n t [x]

def ShpA (P : Program) (n : Nat) : List TypeId → List LV → Prop
  | [], xs => xs = []
  | t :: ts, xs => ∃ x r, xs = x :: r ∧ ShpV P n t x ∧ ShpA P n ts r

section
variable {H : Type} {enc : TypeId × Value → H} {P : Program} {w : World} {sp : Nat → Bool} {held : Bool} {base : Nat}

theorem trod_shpV {n : Nat} {t : TypeId} {v : Value} {d : DataW H} {ps : List MemPlace} (hp : plainT P n t = true) (hc : P.cellsOf t = 1 ∨ (match P.underlying t with | some (.struct _) | some (.array _ _) => True | _ => False))
    (h : DataW.Trod enc P w 0 sp held t v d ps) (hv : Value.okWide P w .any base t v) : ∃ x, ShpV P n t x ∧ VR w (fun b => b < w.heap.size) [] x v := by
  obtain ⟨fuel, h⟩ := h
  unfold Value.okWide at hv
  unfold ShpV
  split at hv
  · rename_i hu
    obtain ⟨cs, rfl, hs, _⟩ := hv
    obtain ⟨ls, h1, h2⟩ := trod_shp n t fuel _ _ hp h (by simpa [Value.cells] using hs)
    exact ⟨.agg ls, by rw [hu]; exact ⟨ls, rfl, h1⟩, .agg (by simpa [Value.cells] using h2.1) (fun i hi => by simpa [Value.cells] using h2.2 i hi)⟩
  · rename_i hu
    obtain ⟨cs, rfl, hs, _⟩ := hv
    obtain ⟨ls, h1, h2⟩ := trod_shp n t fuel _ _ hp h (by simpa [Value.cells] using hs)
    exact ⟨.agg ls, by rw [hu]; exact ⟨ls, rfl, h1⟩, .agg (by simpa [Value.cells] using h2.1) (fun i hi => by simpa [Value.cells] using h2.2 i hi)⟩
  · rename_i hn1 hn2
    have hcv : v.cells.toList = [v] := by
      cases v <;> try rfl
      rename_i cs
      exfalso
      unfold plainT at hp
      cases n with
      | zero => simp at hp
      | succ n =>
        simp only at hp
        split at hp <;> simp_all [Cell.okWide, Cell.ok]
    rw [hcv] at h
    have h1 : P.cellsOf t = 1 := by
      rcases hc with h1 | h1
      · exact h1
      · split at h1
        · rename_i hu; exact absurd hu (hn1 _)
        · rename_i hu; exact absurd hu (hn2 _ _)
        · exact h1.elim
    obtain ⟨ls, g1, g2⟩ := trod_shp n t fuel _ _ hp h (by rw [h1]; rfl)
    obtain ⟨x, rfl⟩ : ∃ x, ls = [x] := by
      have := g2.1
      match ls, this with
      | [x], _ => exact ⟨x, rfl⟩
    refine ⟨x, ?_, g2.2 0 (by simp)⟩
    split
    · rename_i hu; exact absurd hu (hn1 _)
    · rename_i hu; exact absurd hu (hn2 _ _)
    · exact g1

def oneT (P : Program) (t : TypeId) : Bool := P.cellsOf t == 1 || (match P.underlying t with | some (.struct _) | some (.array _ _) => true | _ => false)

theorem trodAll_shp {n : Nat} : ∀ (ts : List TypeId) (vs : List Value) (ds : List (DataW H)) (ps : List MemPlace), (ts.all fun t => plainT P n t && oneT P t) = true →
    DataW.TrodAll enc P w 0 sp held ts vs ds ps → (∀ (j : Nat) t v, ts[j]? = some t → vs[j]? = some v → Value.okWide P w .any base t v) →
    ∃ xs, ShpA P n ts xs ∧ VL w [] (fun b => b < w.heap.size) xs vs := by
  intro ts
  induction ts with
  | nil =>
    intro vs ds ps _ h _
    match vs, ds, h with
    | [], [], _ => exact ⟨[], rfl, VL.nil'⟩
  | cons t ts ih =>
    intro vs ds ps hp h hv
    match vs, ds, h with
    | v :: vs, d :: ds, h =>
      obtain ⟨p, q, h1, h2, rfl⟩ := h
      simp only [List.all_cons, Bool.and_eq_true] at hp
      obtain ⟨⟨p1, p2⟩, p3⟩ := hp
      have ho : P.cellsOf t = 1 ∨ (match P.underlying t with | some (.struct _) | some (.array _ _) => True | _ => False) := by
        simp only [oneT, Bool.or_eq_true, beq_iff_eq] at p2
        rcases p2 with p2 | p2
        · exact .inl p2
        · right
          split at p2 <;> simp_all
      obtain ⟨x, g1, g2⟩ := trod_shpV p1 ho h1 (hv 0 t v rfl rfl)
      obtain ⟨xs, k1, k2⟩ := ih vs ds q p3 h2 (fun j t' v' a b => hv (j + 1) t' v' a b)
      exact ⟨x :: xs, ⟨x, xs, rfl, g1, k1⟩, (VL.one g2).append k2⟩

theorem trodAll_stays {w' : World} {sp' : Nat → Bool} (hl : laidOutB P = true) (hb : Below w.heap.size w w') : ∀ (ts : List TypeId) (vs : List Value) (ds : List (DataW H)) (ps : List MemPlace),
    (ts.all fun t => P.readableRec t && decide (t < P.types.size)) = true → DataW.TrodAll enc P w 0 (fun _ => true) true ts vs ds ps → (∀ x ∈ ps, x.block < w.heap.size) → (∀ x ∈ ps, sp' x.block = true) →
    DataW.TrodAll enc P w' 0 sp' true ts vs ds ps := by
  intro ts
  induction ts with
  | nil =>
    intro vs ds ps _ h _ _
    match vs, ds, h with
    | [], [], h => exact h
  | cons t ts ih =>
    intro vs ds ps hp h hlt hsp
    match vs, ds, h with
    | v :: vs, d :: ds, h =>
      obtain ⟨p, q, h1, h2, rfl⟩ := h
      simp only [List.all_cons, Bool.and_eq_true, decide_eq_true_eq] at hp
      exact ⟨p, q, WideElems.Trod_stays hl hp.1.1 hp.1.2 h1 (fun x hx => hb.same (hlt x (by simp [hx]))) (fun x hx => hsp x (by simp [hx])), ih vs ds q hp.2 h2 (fun x hx => hlt x (by simp [hx])) (fun x hx => hsp x (by simp [hx])), rfl⟩

theorem trodAll_len : ∀ {ts : List TypeId} {vs : List Value} {ds : List (DataW H)} {ps : List MemPlace}, DataW.TrodAll enc P w 0 sp held ts vs ds ps → ds.length = ts.length := by
  intro ts
  induction ts with
  | nil => intro vs ds ps h; match vs, ds, h with | [], [], _ => rfl
  | cons t ts ih => intro vs ds ps h; match vs, ds, h with | v :: vs, d :: ds, h => obtain ⟨p, q, _, h2, _⟩ := h; simp [ih h2]
end
end Go.Lite
