/- Lite, part TM: a law's arguments read as typed values. -/
import Derived.Test.YthmjeeamomfifaaLiteV
import Derived.Test.YthmjeeamomfifaaLiteTL
namespace Go.Lite
open Go Go.RowKit
set_option linter.unusedVariables false

/-- Cell for cell no more. -/
def LessL (as bs : List LV) : Prop := as.length = bs.length ∧ ∀ i (h1 : i < as.length) (h2 : i < bs.length), Less as[i] bs[i]
theorem LessL.nil : LessL [] [] := ⟨rfl, fun i h => absurd h (by simp)⟩
theorem LessL.one {a b : LV} (h : Less a b) : LessL [a] [b] := ⟨rfl, fun i h1 h2 => by
  have : i = 0 := by simpa using h1
  subst this; exact h⟩
theorem LessL.app {as bs cs ds : List LV} (h : LessL as bs) (k : LessL cs ds) : LessL (as ++ cs) (bs ++ ds) := by
  refine ⟨by simp [h.1, k.1], fun i h1 h2 => ?_⟩
  by_cases hi : i < as.length
  · rw [List.getElem_append_left hi, List.getElem_append_left (by rw [← h.1]; exact hi)]
    exact h.2 i hi _
  · rw [List.getElem_append_right (by omega), List.getElem_append_right (by rw [← h.1]; omega)]
    have := k.2 (i - as.length) (by simp at h1; omega) (by rw [← k.1]; simp at h1; omega)
    simpa [h.1] using this
theorem LessL.cons {a b : LV} {as bs : List LV} (h : Less a b) (k : LessL as bs) : LessL (a :: as) (b :: bs) := (LessL.one h).app k
theorem Less.ps {sz n : Nat} {cs ds : List LV} (h : LessL cs ds) : Less (.ps sz n cs) (.ps sz n ds) := fun w per ι ι' v hv => by
  cases hv with
  | psz =>
    have : cs = [] := List.eq_nil_of_length_eq_zero (by rw [h.1]; rfl)
    subst this; exact .psz
  | ps vs hp hn hl hc hvv => exact .ps vs hp (by rw [h.1]; exact hn) hl (fun i hi => hc i (by rw [← h.1]; exact hi)) fun i hi => h.2 i hi (by rw [← h.1]; exact hi) w per [] [] _ (hvv i (by rw [← h.1]; exact hi))
theorem Less.psnil {sz : Nat} : Less (.ps sz 0 []) .nils := fun w per ι ι' v hv => by cases hv; exact .psz

section
variable {P : Program} {n : Nat} {t : TypeId}

theorem rpt_read {S : List LV → Prop} {α : Type} {enc : α → List LV} {ok : α → Prop} (h : ∀ ls, S ls → ∃ a, ok a ∧ LessL (enc a) ls) : ∀ (n : Nat) (ls : List LV), Rpt S n ls → ∃ xs : List α, xs.length = n ∧ (∀ x ∈ xs, ok x) ∧ LessL (xs.flatMap enc) ls := by
  intro n
  induction n with
  | zero => intro ls hr; obtain rfl : ls = [] := hr; exact ⟨[], rfl, fun x hx => by simp at hx, .nil⟩
  | succ n ih =>
    intro ls hr
    obtain ⟨p, q, rfl, hp, hq⟩ := hr
    obtain ⟨a, h1, h2⟩ := h p hp
    obtain ⟨xs, k1, k2, k3⟩ := ih q hq
    refine ⟨a :: xs, by simp [k1], fun x hx => ?_, by rw [List.flatMap_cons]; exact h2.app k3⟩
    rcases List.mem_cons.1 hx with rfl | hx
    · exact h1
    · exact k2 x hx

theorem shp_bool (hu : P.underlying t = some .bool) {ls : List LV} (h : Shp P (n + 1) t ls) : ∃ b, ls = [.bool b] := by simpa only [Shp, hu] using h
theorem shp_int {k : IntKind} (hu : P.underlying t = some (.int k)) {ls : List LV} (h : Shp P (n + 1) t ls) : ∃ m, ls = [.int k m] ∧ (Lit.int k m).wf = true := by simpa only [Shp, hu] using h
theorem shp_str (hu : P.underlying t = some .string) {ls : List LV} (h : Shp P (n + 1) t ls) : ∃ s, ls = [.str s] ∧ s.size ≤ maxLen := by simpa only [Shp, hu] using h
theorem shp_struct {fs : Array Field} (hu : P.underlying t = some (.struct fs)) {ls : List LV} (h : Shp P (n + 1) t ls) : Cat (fs.toList.map fun f => Shp P n f.type) ls := by simpa only [Shp, hu] using h
/-- A struct's fields' types. -/
def fieldsT (P : Program) (t : TypeId) : Option (List TypeId) := match P.underlying t with
  | some (.struct fs) => some (fs.toList.map (·.type))
  | _ => none
theorem shp_fields {ts : List TypeId} (hu : fieldsT P t = some ts) {ls : List LV} (h : Shp P (n + 1) t ls) : Cat (ts.map (Shp P n)) ls := by
  unfold fieldsT at hu
  split at hu
  · rename_i fs hf
    obtain rfl := Option.some.inj hu
    have := shp_struct hf h
    rwa [List.map_map]
  · cases hu
theorem shp_array {m : Nat} {e : TypeId} (hu : P.underlying t = some (.array m e)) {ls : List LV} (h : Shp P (n + 1) t ls) : Rpt (Shp P n e) m ls := by simpa only [Shp, hu] using h
theorem shp_slice {A : Nat → Type} {R : Reg A} {e : Nat} {te : TypeId} {ok : A e → Prop} (hu : P.underlying t = some (.slice te)) (hsz : P.cellsOf te = R.sz e) (hel : ∀ ls, Shp P n te ls → ∃ a, ok a ∧ LessL (R.encL e a) ls) {ls : List LV} (h : Shp P (n + 1) t ls) :
    ∃ xs : List (A e), (xs.length ≤ maxLen ∧ ∀ x ∈ xs, ok x) ∧ LessL [emb R (.lst e xs)] ls := by
  simp only [Shp, hu] at h
  rcases h with rfl | ⟨len, cs, rfl, hl, hr⟩
  · exact ⟨[], ⟨by simp, fun x hx => by simp at hx⟩, .one .psnil⟩
  · obtain ⟨xs, h1, h2, h3⟩ := rpt_read hel len cs hr
    refine ⟨xs, ⟨by omega, h2⟩, .one ?_⟩
    simp only [emb, h1, hsz]
    exact .ps h3

theorem shpv_agg {fs : Array Field} (hu : P.underlying t = some (.struct fs)) {x : LV} (h : ShpV P n t x) : ∃ ls, x = .agg ls ∧ Shp P n t ls := by
  unfold ShpV at h; rw [hu] at h; exact h
theorem shpv_fields {ts : List TypeId} (hu : fieldsT P t = some ts) {x : LV} (h : ShpV P (n + 1) t x) : ∃ ls, x = .agg ls ∧ Cat (ts.map (Shp P n)) ls := by
  have hu' := hu
  unfold fieldsT at hu'
  split at hu'
  · rename_i fs hf
    obtain ⟨ls, h1, h2⟩ := shpv_agg hf h
    exact ⟨ls, h1, shp_fields hu h2⟩
  · cases hu'
theorem shpv_arr {m : Nat} {e : TypeId} (hu : P.underlying t = some (.array m e)) {x : LV} (h : ShpV P n t x) : ∃ ls, x = .agg ls ∧ Shp P n t ls := by
  unfold ShpV at h; rw [hu] at h; exact h
theorem shpv_int {k : IntKind} (hu : P.underlying t = some (.int k)) {x : LV} (h : ShpV P (n + 1) t x) : ∃ m, x = .int k m ∧ (Lit.int k m).wf = true := by
  unfold ShpV at h; rw [hu] at h
  obtain ⟨m, h1, h2⟩ := shp_int hu h
  exact ⟨m, by simpa using h1, h2⟩
theorem shpv_bool (hu : P.underlying t = some .bool) {x : LV} (h : ShpV P (n + 1) t x) : ∃ b, x = .bool b := by
  unfold ShpV at h; rw [hu] at h
  obtain ⟨m, h1⟩ := shp_bool hu h
  exact ⟨m, by simpa using h1⟩
theorem shpv_str (hu : P.underlying t = some .string) {x : LV} (h : ShpV P (n + 1) t x) : ∃ s, x = .str s ∧ s.size ≤ maxLen := by
  unfold ShpV at h; rw [hu] at h
  obtain ⟨m, h1, h2⟩ := shp_str hu h
  exact ⟨m, by simpa using h1, h2⟩
theorem shpv_slice {te : TypeId} (hu : P.underlying t = some (.slice te)) {x : LV} (h : ShpV P n t x) : Shp P n t [x] := by
  unfold ShpV at h; rw [hu] at h; exact h
end

section
variable {A : Nat → Type} {R : Reg A} {P : Program}
/-- From a contract at typed values to one at what is no less. -/
theorem TC.less {f : Nat} {args : List (TV A)} {xs : List LV} (h : TC R P f args [] (fun w X => w = .bool true ∧ X = [])) (hl : LessL (embC R args) xs) : LC P f xs [] fun x _ => x = .bool true :=
  (LC.args hl.1 hl.2 h).mono fun x G ⟨v, X, ⟨h1, h2⟩, h3, h4⟩ => by subst h1; exact h3
theorem Less.agg' {cs ds : List LV} (h : LessL cs ds) : Less (.agg cs) (.agg ds) := .agg h.1 h.2
end
end Go.Lite
