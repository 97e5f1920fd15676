/- Lite, parts TG TH. -/
import Derived.Test.YtagfanbodglplaaLiteTF
set_option linter.unusedVariables false
set_option linter.unusedSimpArgs false

/- Lite, part TG: rows renamed, forgotten, shown and frozen, on typed values. -/
namespace Go.Lite
open Go Go.RowKit
set_option linter.unusedVariables false

theorem ren_free (g : Nat → Nat) (x : LV) (hx : hfree x = true) : ren g x = x := by
  have key : ∀ (n : Nat) (g : Nat → Nat) (x : LV), SizeOf.sizeOf x < n → hfree x = true → ren g x = x := by
    intro n
    induction n with
    | zero => intro g x h; omega
    | succ n ih =>
      intro g x hs hx
      have keyL : ∀ (cs : List LV), SizeOf.sizeOf cs < n → hfreeL cs = true → renL g cs = cs := by
        intro cs hcs hf
        rw [renL_eq]
        have : ∀ c ∈ cs, ren g c = c := fun c hc => by
          obtain ⟨i, hi, rfl⟩ := List.getElem_of_mem hc
          have := List.sizeOf_lt_of_mem hc
          exact ih g _ (by omega) (hfreeL_get hf i hi)
        rw [List.map_congr_left this]; simp
      cases x <;> simp only [hfree, reduceCtorEq] at hx <;> simp only [ren]
      · rw [keyL _ (by simp at hs; omega) hx]
      · rw [keyL _ (by simp at hs; omega) hx]
      · rw [keyL _ (by simp at hs; omega) hx]
  exact key _ g x (Nat.lt_succ_self _) hx

theorem hfreeL_flat {α : Type} {f : α → List LV} (h : ∀ a, hfreeL (f a) = true) (xs : List α) : hfreeL (xs.flatMap f) = true := by
  have app : ∀ (a b : List LV), hfreeL a = true → hfreeL b = true → hfreeL (a ++ b) = true := by
    intro a
    induction a with
    | nil => intro b _ hb; exact hb
    | cons c r ih =>
      intro b ha hb
      simp only [hfreeL, Bool.and_eq_true, List.cons_append] at *
      exact ⟨ha.1, ih b ha.2 hb⟩
  induction xs with
  | nil => rfl
  | cons x r ih => rw [List.flatMap_cons]; exact app _ _ (h x) ih

theorem renL_free (g : Nat → Nat) {cs : List LV} (h : hfreeL cs = true) : renL g cs = cs := by
  rw [renL_eq]
  have : ∀ c ∈ cs, ren g c = c := fun c hc => by
    obtain ⟨i, hi, rfl⟩ := List.getElem_of_mem hc
    exact ren_free g _ (hfreeL_get h i hi)
  rw [List.map_congr_left this]; simp

section
variable {A : Nat → Type} (R : Reg A)

mutual
def tren (g : Nat → Nat) : TV A → TV A
  | .ptr h o => .ptr (g h) o
  | .ptrE sz h i o => .ptrE sz (g h) i o
  | .sl sz h o n => .sl sz (g h) o n
  | .sla sz h o n => .sla sz (g h) o n
  | .fn f cs => .fn f (trenL g cs)
  | .agg cs => .agg (trenL g cs)
  | .tup cs => .tup (trenL g cs)
  | .opt b v => .opt b (tren g v)
  | .dead => .dead
  | .und => .und
  | .bool b => .bool b
  | .int k n => .int k n
  | .str s => .str s
  | .nilp => .nilp
  | .nils => .nils
  | .nilf => .nilf
  | .yld l => .yld l
  | .pel cs => .pel cs
  | .lst e xs => .lst e xs
def trenL (g : Nat → Nat) : List (TV A) → List (TV A)
  | [] => []
  | c :: r => tren g c :: trenL g r
end

mutual
theorem tren_emb (g : Nat → Nat) : ∀ (v : TV A), emb R (tren g v) = ren g (emb R v)
  | .ptr _ _ => rfl
  | .ptrE _ _ _ _ => rfl
  | .sl _ _ _ _ => rfl
  | .sla _ _ _ _ => rfl
  | .fn f cs => by simp only [tren, emb, ren]; rw [trenL_emb g cs]
  | .agg cs => by simp only [tren, emb, ren]; rw [trenL_emb g cs]
  | .tup cs => by simp only [tren, emb, ren]; rw [trenL_emb g cs]
  | .opt b v => by
    simp only [tren, emb]
    cases b
    · rfl
    · exact tren_emb g v
  | .dead => rfl
  | .und => rfl
  | .bool _ => rfl
  | .int _ _ => rfl
  | .str _ => rfl
  | .nilp => rfl
  | .nils => rfl
  | .nilf => rfl
  | .yld _ => rfl
  | .pel _ => rfl
  | .lst _ _ => rfl
theorem trenL_emb (g : Nat → Nat) : ∀ (cs : List (TV A)), embC R (trenL g cs) = renL g (embC R cs)
  | [] => rfl
  | c :: r => by simp only [trenL, embC, renL]; rw [tren_emb g c, trenL_emb g r]
end

def trenR (g : Nat → Nat) : Option (TRow A) → Option (TRow A)
  | none => none
  | some (.cells cs) => some (.cells (trenL g cs))
  | some (.arr e xs) => some (.arr e xs)

theorem trenR_emb (hR : R.Ok) (g : Nat → Nat) (r : Option (TRow A)) : embO R (trenR g r) = renR g (embO R r) := by
  cases r with
  | none => rfl
  | some r =>
    cases r with
    | cells cs => simp only [trenR, embO, embR, renR, trenL_emb]
    | arr e xs => simp only [trenR, embO, embR, renR, renL_free g (hfreeL_flat (hR.free e) xs)]

def trenH (g : Nat → Nat) : TH A → TH A
  | [] => []
  | r :: H => trenR g r :: trenH g H
theorem trenH_emb (hR : R.Ok) (g : Nat → Nat) (H : TH A) : embH R (trenH g H) = (embH R H).map (renR g) := by
  induction H with
  | nil => rfl
  | cons r H ih => simp only [trenH, embH, List.map_cons, trenR_emb R hR, ih]

mutual
def thfree : TV A → Bool
  | .ptr _ _ | .ptrE _ _ _ _ | .sl _ _ _ _ | .sla _ _ _ _ => false
  | .fn _ cs => thfreeL cs
  | .agg cs => thfreeL cs
  | .tup cs => thfreeL cs
  | .opt _ v => thfree v
  | .dead | .und | .bool _ | .int _ _ | .str _ | .nilp | .nils | .nilf | .yld _ | .pel _ | .lst _ _ => true
def thfreeL : List (TV A) → Bool
  | [] => true
  | c :: r => thfree c && thfreeL r
end

mutual
theorem thfree_emb : ∀ (v : TV A), thfree v = true → hfree (emb R v) = true
  | .ptr _ _, h => by simp [thfree] at h
  | .ptrE _ _ _ _, h => by simp [thfree] at h
  | .sl _ _ _ _, h => by simp [thfree] at h
  | .sla _ _ _ _, h => by simp [thfree] at h
  | .fn f cs, h => by simp only [thfree] at h; simp only [emb, hfree]; exact thfreeL_emb cs h
  | .agg cs, h => by simp only [thfree] at h; simp only [emb, hfree]; exact thfreeL_emb cs h
  | .tup cs, h => by simp only [thfree] at h; simp only [emb, hfree]; exact thfreeL_emb cs h
  | .opt b v, h => by
    simp only [thfree] at h
    simp only [emb]
    cases b
    · rfl
    · exact thfree_emb v h
  | .dead, _ => rfl
  | .und, _ => rfl
  | .bool _, _ => rfl
  | .int _ _, _ => rfl
  | .str _, _ => rfl
  | .nilp, _ => rfl
  | .nils, _ => rfl
  | .nilf, _ => rfl
  | .yld _, _ => rfl
  | .pel _, _ => rfl
  | .lst _ _, _ => rfl
theorem thfreeL_emb : ∀ (cs : List (TV A)), thfreeL cs = true → hfreeL (embC R cs) = true
  | [], _ => rfl
  | c :: r, h => by
    simp only [thfreeL, Bool.and_eq_true] at h
    simp only [embC, hfreeL, Bool.and_eq_true]
    exact ⟨thfree_emb c h.1, thfreeL_emb r h.2⟩
end

mutual
/-- It holds no plain memory. -/
def tpfree : TV A → Bool
  | .pel _ | .lst _ _ => false
  | .fn _ cs => tpfreeL cs
  | .agg cs => tpfreeL cs
  | .tup cs => tpfreeL cs
  | .opt _ v => tpfree v
  | _ => true
def tpfreeL : List (TV A) → Bool
  | [] => true
  | c :: r => tpfree c && tpfreeL r
end

mutual
theorem tpfree_emb : ∀ (v : TV A), tpfree v = true → psfree (emb R v) = true
  | .pel _, h => by simp [tpfree] at h
  | .lst _ _, h => by simp [tpfree] at h
  | .fn f cs, h => by simp only [tpfree] at h; simp only [emb, psfree]; exact tpfreeL_emb cs h
  | .agg cs, h => by simp only [tpfree] at h; simp only [emb, psfree]; exact tpfreeL_emb cs h
  | .tup cs, h => by simp only [tpfree] at h; simp only [emb, psfree]; exact tpfreeL_emb cs h
  | .opt b v, h => by
    simp only [tpfree] at h
    simp only [emb]
    cases b
    · rfl
    · exact tpfree_emb v h
  | .dead, _ => rfl
  | .und, _ => rfl
  | .bool _, _ => rfl
  | .int _ _, _ => rfl
  | .str _, _ => rfl
  | .nilp, _ => rfl
  | .nils, _ => rfl
  | .nilf, _ => rfl
  | .yld _, _ => rfl
  | .ptr _ _, _ => rfl
  | .ptrE _ _ _ _, _ => rfl
  | .sl _ _ _ _, _ => rfl
  | .sla _ _ _ _, _ => rfl
theorem tpfreeL_emb : ∀ (cs : List (TV A)), tpfreeL cs = true → psfreeL (embC R cs) = true
  | [], _ => rfl
  | c :: r, h => by
    simp only [tpfreeL, Bool.and_eq_true] at h
    simp only [embC, psfreeL, Bool.and_eq_true]
    exact ⟨tpfree_emb c h.1, tpfreeL_emb r h.2⟩
end

/-- The element types whose cells are plain numbers, bools and strings. -/
def tpfreeH (fl : Nat → Bool) : TH A → Bool
  | [] => true
  | none :: H => tpfreeH fl H
  | some (.cells cs) :: H => tpfreeL cs && tpfreeH fl H
  | some (.arr e xs) :: H => fl e && tpfreeH fl H

theorem tpfreeH_emb {fl : Nat → Bool} (hfl : ∀ e, fl e = true → ∀ a, psfreeL (R.encL e a) = true) : ∀ (H : TH A), tpfreeH fl H = true → psfreeH (embH R H) = true
  | [], _ => rfl
  | none :: H, h => by simp only [embH, embO, psfreeH]; exact tpfreeH_emb hfl H (by simpa [tpfreeH] using h)
  | some (.cells cs) :: H, h => by
    simp only [tpfreeH, Bool.and_eq_true] at h
    simp only [embH, embO, embR, psfreeH, Bool.and_eq_true]
    exact ⟨tpfreeL_emb R cs h.1, tpfreeH_emb hfl H h.2⟩
  | some (.arr e xs) :: H, h => by
    simp only [tpfreeH, Bool.and_eq_true] at h
    simp only [embH, embO, embR, psfreeH, Bool.and_eq_true]
    refine ⟨?_, tpfreeH_emb hfl H h.2⟩
    have app : ∀ (a b : List LV), psfreeL a = true → psfreeL b = true → psfreeL (a ++ b) = true := by
      intro a
      induction a with
      | nil => intro b _ hb; exact hb
      | cons c r ih =>
        intro b ha hb
        simp only [psfreeL, Bool.and_eq_true, List.cons_append] at *
        exact ⟨ha.1, ih b ha.2 hb⟩
    induction xs with
    | nil => rfl
    | cons x r ih => rw [List.flatMap_cons]; exact app _ _ (hfl e h.1 x) ih

/-! ### What a reader is shown -/
def tsnap (H : TH A) : Nat → TV A → List Prop × TV A
  | 0, v => cond (thfree v) ([], v) ([], .dead)
  | k + 1, v => match v with
    | .sla sz h o n => (match trow H h with
      | some (.arr e xs) => cond (Nat.beq sz (R.sz e)) ([o + n ≤ xs.length], .lst e (cut xs o n)) ([], .dead)
      | _ => ([], .dead))
    | .fn f cs => cond (fnB ((cs.map (tsnap H k)).map (·.2)) cs) ((cs.map (tsnap H k)).flatMap (·.1), .fn f ((cs.map (tsnap H k)).map (·.2))) ([], .dead)
    | .agg cs => ((cs.map (tsnap H k)).flatMap (·.1), .agg ((cs.map (tsnap H k)).map (·.2)))
    | .und => ([], .und)
    | .bool b => ([], .bool b)
    | .int k n => ([], .int k n)
    | .str s => ([], .str s)
    | .nilp => ([], .nilp)
    | .nils => ([], .nils)
    | .nilf => ([], .nilf)
    | .yld l => ([], .yld l)
    | .pel cs => ([], .pel cs)
    | .lst e xs => ([], .lst e xs)
    | .ptr h o => (match trow H h with
      | some (.cells cs) => (((cs.drop o).map (tsnap H k)).flatMap (·.1), .pel (((cs.drop o).map (tsnap H k)).map (·.2)))
      | _ => ([], .dead))
    | .ptrE sz h i o => (match trow H h with
      | some (.arr e xs) => cond (Nat.beq sz (R.sz e)) ([i < xs.length], .pel ((R.enc e (xs.getD i (R.d e))).drop o)) ([], .dead)
      | _ => ([], .dead))
    | .opt g w => (match w with
      | .int kd n => ([g = true], .int kd n)
      | .bool b => ([g = true], .bool b)
      | .str s => ([g = true], .str s)
      | .lst e xs => ([g = true], .lst e xs)
      | .pel cs => ([g = true], .pel cs)
      | .agg cs => ((g = true) :: (cs.map (tsnap H k)).flatMap (·.1), .agg ((cs.map (tsnap H k)).map (·.2)))
      | _ => ([], .dead))
    | _ => ([], .dead)

theorem Conj.flat {α : Type _} {f : α → List Prop} : ∀ {l : List α}, Conj (l.flatMap f) → ∀ x ∈ l, Conj (f x)
  | [], _, x, hx => by simp at hx
  | a :: r, h, x, hx => by
    rw [List.flatMap_cons] at h
    obtain ⟨h1, h2⟩ := Conj.app h
    rcases List.mem_cons.1 hx with rfl | hx
    · exact h1
    · exact Conj.flat h2 x hx

/-- A value that says no more than the other, whatever the rows. -/
def Less (x y : LV) : Prop := ∀ (w : World) (per : Nat → Prop) (ι ι' : Pl) (v : Value), VR w per ι y v → VR w per ι' x v
theorem Less.dead {y : LV} : Less .dead y := fun _ _ _ _ v _ => .dead v
theorem Less.free {x : LV} (h : hfree x = true) : Less x x := fun _ _ _ _ _ hv => hv.hfree h

theorem snap_free {H : Hp} : ∀ (k : Nat) (x : LV), hfree x = true → (k = 0 ∨ ∀ cs, x ≠ .tup cs) → snap H k x = x := by
  intro k
  cases k with
  | zero => intro x hx _; simp [snap, hx]
  | succ k =>
    intro x hx ht
    have ht := ht.resolve_left (by omega)
    cases x <;> simp only [hfree, reduceCtorEq] at hx <;> simp only [snap]
    · simp [snL, hx]
    · simp [snL, hx]
    · exact absurd rfl (ht _)

theorem Less.agg {cs ds : List LV} (hl : cs.length = ds.length) (h : ∀ i (h1 : i < cs.length) (h2 : i < ds.length), Less cs[i] ds[i]) : Less (.agg cs) (.agg ds) := fun w per ι ι' v hv => by
  obtain ⟨vs, rfl, hvl⟩ := hv.agg_inv
  exact .agg (by rw [hl]; exact hvl.1) fun i hi2 => h i hi2 (by rw [← hl]; exact hi2) w per ι ι' _ (hvl.2 i (by rw [← hl]; exact hi2))
theorem Less.fn {f : Nat} {cs ds : List LV} (hu : isUnd cs = isUnd ds) (hl : cs.length = ds.length) (h : ∀ i (h1 : i < cs.length) (h2 : i < ds.length), Less cs[i] ds[i]) : Less (.fn f cs) (.fn f ds) := fun w per ι ι' v hv => by
  cases hv with
  | fn hn hvv => exact .fnC (by rw [hl]; exact hn) (fun i hi2 => h i hi2 (by rw [← hl]; exact hi2) w per ι ι' _ (hvv i (by rw [← hl]; exact hi2))) hu

theorem Less.pp {cs ds : List LV} (hl : cs.length ≤ ds.length) (h : ∀ i (h1 : i < cs.length) (h2 : i < ds.length), Less cs[i] ds[i]) : Less (.pp cs) (.pp ds) := fun w per ι ι' v hv => by
  obtain ⟨b, o, vs, hp, hc, hvv, rfl⟩ := hv.pp_inv
  exact .pp vs hp (fun i hi => hc i (by omega)) fun i hi => h i hi (by omega) w per [] [] _ (hvv i (by omega))

theorem snL_get {f : LV → LV} {l : List LV} : (snL f l).length = l.length ∧ ∀ i (h1 : i < (snL f l).length) (h2 : i < l.length), (snL f l)[i] = f l[i] ∨ (hfree l[i] = true ∧ (snL f l)[i] = l[i]) := by
  unfold snL
  split
  · rename_i hf
    exact ⟨rfl, fun i h1 h2 => .inr ⟨hfreeL_get hf i h2, rfl⟩⟩
  · exact ⟨by simp, fun i h1 h2 => .inl (by simp)⟩

theorem tsnap_ok (hR : R.Ok) (H : TH A) : ∀ (k : Nat) (v : TV A), Conj (tsnap R H k v).1 → Less (emb R (tsnap R H k v).2) (snap (embH R H) k (emb R v)) := by
  intro k
  induction k with
  | zero =>
    intro v _
    simp only [tsnap]
    cases hf : thfree v with
    | false => exact .dead
    | true =>
      simp only [cond_true, snap]
      rw [if_pos (thfree_emb R v hf)]
      exact .free (thfree_emb R v hf)
  | succ k ih =>
    have ihL : ∀ (cs : List (TV A)), Conj ((cs.map (tsnap R H k)).flatMap (·.1)) → (embC R ((cs.map (tsnap R H k)).map (·.2))).length = (snL (snap (embH R H) k) (embC R cs)).length ∧
        ∀ i (h1 : i < (embC R ((cs.map (tsnap R H k)).map (·.2))).length) (h2 : i < (snL (snap (embH R H) k) (embC R cs)).length), Less (embC R ((cs.map (tsnap R H k)).map (·.2)))[i] (snL (snap (embH R H) k) (embC R cs))[i] := by
      intro cs hc
      obtain ⟨g1, g2⟩ := snL_get (f := snap (embH R H) k) (l := embC R cs)
      refine ⟨by rw [g1, embC_length, embC_length]; simp, fun i h1 h2 => ?_⟩
      have hi : i < cs.length := by rw [embC_length] at h1; simpa using h1
      have hi2 : i < (embC R cs).length := by rw [embC_length]; exact hi
      have e1 : (embC R ((cs.map (tsnap R H k)).map (·.2)))[i] = emb R (tsnap R H k cs[i]).2 := by simp [embC_eq]
      have e2 : (embC R cs)[i] = emb R cs[i] := by simp [embC_eq]
      have hci := Conj.flat hc (tsnap R H k cs[i]) (List.mem_map.2 ⟨cs[i], List.getElem_mem hi, rfl⟩)
      rw [e1]
      rcases g2 i h2 hi2 with h | ⟨hf, h⟩
      · rw [h, e2]; exact ih _ hci
      · rw [h, e2]
        rw [e2] at hf
        by_cases ht : k = 0 ∨ ∀ ds, emb R cs[i] ≠ .tup ds
        · have := ih _ hci
          rwa [snap_free k _ hf ht] at this
        · -- a tuple is not shown
          have hk : ∃ j, k = j + 1 := ⟨k - 1, by omega⟩
          obtain ⟨j, rfl⟩ := hk
          have : ∃ ds, emb R cs[i] = .tup ds := by
            refine Classical.byContradiction fun hn => ht (.inr fun ds e => hn ⟨ds, e⟩)
          obtain ⟨ds, hds⟩ := this
          generalize cs[i] = v at *
          cases v <;> simp only [emb, reduceCtorEq] at hds <;> simp only [tsnap] <;> first | exact .dead | skip
          all_goals first
            | (rename_i g w; cases w <;> first | exact .dead | (cases g <;> simp [emb] at hds); done)
            | skip
    intro v hc
    cases v with
    | sla sz h o n =>
      simp only [tsnap] at hc ⊢
      split at hc
      · rename_i e xs hr
        cases hb : Nat.beq sz (R.sz e) with
        | false => simp only [cond_false]; exact .dead
        | true =>
          rw [hb] at hc
          simp only [cond_true] at hc ⊢
          obtain ⟨c1, _⟩ := hc
          have hs := Nat.eq_of_beq_eq_true hb
          subst hs
          simp only [emb, snap, row_emb R hr, embR]
          have hle : o * R.sz e + n * R.sz e ≤ (xs.flatMap (R.encL e)).length := by
            rw [fm_length (hR.len e), ← Nat.add_mul]; exact Nat.mul_le_mul_right _ c1
          rw [if_pos hle, fm_drop (hR.len e), fm_take (hR.len e), ← cut_eq]
          unfold snL
          rw [if_pos (hfreeL_flat (hR.free e) _), cut_length c1]
          exact .free rfl
      · exact .dead
    | fn f cs =>
      simp only [tsnap] at hc ⊢
      cases hb : fnB ((cs.map (tsnap R H k)).map (·.2)) cs with
      | false => simp only [cond_false]; exact .dead
      | true =>
        rw [hb] at hc
        simp only [cond_true] at hc ⊢
        simp only [emb, snap]
        exact .fn ((fnB_ok hb).trans (isUnd_snL _).symm) (ihL cs hc).1 (ihL cs hc).2
    | agg cs =>
      simp only [tsnap] at hc ⊢
      simp only [emb, snap]
      exact .agg (ihL cs hc).1 (ihL cs hc).2
    | opt b v =>
      cases v <;> simp only [tsnap] at hc ⊢ <;> first | exact .dead | skip
      all_goals
        obtain ⟨rfl, hc⟩ := hc
        simp only [emb, cond_true, snap]
        first | exact .agg (ihL _ hc).1 (ihL _ hc).2 | exact .free rfl | exact .free (by simp [hfree])
    | ptr h o =>
      simp only [tsnap] at hc ⊢
      split at hc
      · rename_i cs hr
        simp only [emb, snap, row_emb R hr, embR]
        have := ihL (cs.drop o) hc
        rw [embC_drop] at this
        exact .pp (Nat.le_of_eq this.1) this.2
      · exact .dead
    | ptrE sz h i o =>
      simp only [tsnap] at hc ⊢
      split at hc
      · rename_i e xs hr
        cases hb : Nat.beq sz (R.sz e) with
        | false => simp only [cond_false]; exact .dead
        | true =>
          rw [hb] at hc
          simp only [cond_true] at hc ⊢
          obtain ⟨c1, _⟩ := hc
          have hs := Nat.eq_of_beq_eq_true hb
          subst hs
          simp only [emb, snap, row_emb R hr, embR]
          obtain ⟨e1, e2⟩ := fm_split (hR.len e) c1
          have hsn : snL (snap (embH R H) k) ((xs.flatMap (R.encL e)).drop (i * R.sz e + o)) = (xs.flatMap (R.encL e)).drop (i * R.sz e + o) := by
            unfold snL
            rw [if_pos]
            have gen : ∀ (l : List LV), (∀ c ∈ l, hfree c = true) → hfreeL l = true := by
              intro l
              induction l with
              | nil => intro _; rfl
              | cons c r ih => intro h; simp only [hfreeL, Bool.and_eq_true]; exact ⟨h c (by simp), ih fun d hd => h d (by simp [hd])⟩
            refine gen _ fun c hc => ?_
            obtain ⟨j, hj, rfl⟩ := List.getElem_of_mem (List.mem_of_mem_drop hc)
            exact hfreeL_get (hfreeL_flat (hR.free e) xs) j hj
          rw [hsn]
          have ed : (xs.flatMap (R.encL e)).drop (i * R.sz e + o) = (R.encL e xs[i] ++ (xs.drop (i + 1)).flatMap (R.encL e)).drop o := by
            rw [e1, ← List.drop_drop, List.drop_left' e2]
          rw [ed, embC_drop, hR.ok, getD_get _ c1]
          refine .pp (by simp; omega) fun j h1 h2 => ?_
          have h1' : o + j < (R.encL e xs[i]).length := by simp at h1; omega
          rw [List.getElem_drop, List.getElem_drop, List.getElem_append_left h1']
          exact .free (hfreeL_get (hR.free e _) _ h1')
      · exact .dead
    | _ => simp only [tsnap, emb, snap]; first | exact .dead | exact .free rfl

end

/-- Arguments that say less. -/
theorem LC.args {P : Program} {f : Nat} {as bs : List LV} {Q : LV → Hp → Prop} (hl : as.length = bs.length) (h : ∀ i (h1 : i < as.length) (h2 : i < bs.length), Less as[i] bs[i]) (hc : LC P f as [] Q) : LC P f bs [] Q :=
  ⟨hc.1, fun kp per ι w vs h1 h2 h3 h4 => hc.2 kp per ι w vs h1 h2 h3 ⟨by rw [hl]; exact h4.1, fun i hi => h i hi (by rw [← hl]; exact hi) w per ι ι _ (h4.2 i (by rw [← hl]; exact hi))⟩⟩

end Go.Lite

/- Lite, part TH: what is known is forgotten, renumbered, frozen. -/
namespace Go.Lite
open Go Go.RowKit
set_option linter.unusedVariables false

/-- x says no more than y. -/
def WeakS (x y : LV) : Prop := ∀ (w : World) (per : Nat → Prop) (ι : Pl) (v : Value), VR w per ι y v → VR w per ι x v
theorem WeakS.refl (x : LV) : WeakS x x := fun _ _ _ _ h => h
theorem WeakS.dead {y : LV} : WeakS .dead y := fun _ _ _ v _ => .dead v

theorem WeakS.agg {cs ds : List LV} (hl : cs.length = ds.length) (h : ∀ i (h1 : i < cs.length) (h2 : i < ds.length), WeakS cs[i] ds[i]) : WeakS (.agg cs) (.agg ds) := fun w per ι v hv => by
  obtain ⟨vs, rfl, hvl⟩ := hv.agg_inv
  exact .agg (by rw [hl]; exact hvl.1) fun i hi2 => h i hi2 (by rw [← hl]; exact hi2) w per ι _ (hvl.2 i (by rw [← hl]; exact hi2))
theorem WeakS.tup {cs ds : List LV} (hl : cs.length = ds.length) (h : ∀ i (h1 : i < cs.length) (h2 : i < ds.length), WeakS cs[i] ds[i]) : WeakS (.tup cs) (.tup ds) := fun w per ι v hv => by
  obtain ⟨vs, rfl, hvl⟩ := hv.tup_inv
  exact .tup (by rw [hl]; exact hvl.1) fun i hi2 => h i hi2 (by rw [← hl]; exact hi2) w per ι _ (hvl.2 i (by rw [← hl]; exact hi2))
theorem WeakS.fn {f : Nat} {cs ds : List LV} (hu : isUnd cs = isUnd ds) (hl : cs.length = ds.length) (h : ∀ i (h1 : i < cs.length) (h2 : i < ds.length), WeakS cs[i] ds[i]) : WeakS (.fn f cs) (.fn f ds) := fun w per ι v hv => by
  cases hv with
  | fn hn hvv => exact .fnC (by rw [hl]; exact hn) (fun i hi2 => h i hi2 (by rw [← hl]; exact hi2) w per ι _ (hvv i (by rw [← hl]; exact hi2))) hu

theorem Wk.weak {N : Dim} {F F' : Fr} {H H' : Hp} (hl : H'.length = H.length) (hF : ∀ t, WeakS (fget F' t) (fget F t))
    (hH : ∀ (j : Nat) (cs' : List LV), H'[j]? = some (some cs') → ∃ cs, H[j]? = some (some cs) ∧ cs'.length = cs.length ∧ ∀ i (h1 : i < cs'.length) (h2 : i < cs.length), WeakS cs'[i] cs[i]) : Wk N F' H' F H := by
  intro cx a w hsr
  obtain ⟨ι, per, hst⟩ := hsr.st
  refine .of (ι := ι) (per := per) ⟨⟨by rw [hst.rep.len, hl], hst.rep.perlt, fun j cs' hj => ?_, fun j j' cs cs' b o b' o' hj hj' hi hi' hbb => ?_⟩, hst.p1, hst.p2, fun t => hF t w per ι _ (hst.fr t), hst.size, hst.defers, hst.below, hst.bs, hst.grow⟩
  · obtain ⟨cs, h1, h2, h3⟩ := hH j cs' hj
    rcases hst.rep.live j cs h1 with ⟨k1, k2⟩ | ⟨b, o, c, e, k1, k2, k3, k4, k5, k6⟩
    · subst k2; exact .inl ⟨k1, List.eq_nil_of_length_eq_zero (by simpa using h2)⟩
    · exact .inr ⟨b, o, c, e, k1, k2, k3, k4, by omega, fun i hi => h3 i hi (by omega) w per ι _ (k6 i (by omega))⟩
  · obtain ⟨d, h1, _⟩ := hH j cs hj
    obtain ⟨d', h1', _⟩ := hH j' cs' hj'
    exact hst.rep.inj j j' d d' b o b' o' h1 h1' hi hi' hbb

section
variable {A : Nat → Type} (R : Reg A)

def sgB (σ : List (Option Nat)) (j h : Nat) : Bool := match nth σ j with
  | some (some k) => Nat.beq k h
  | _ => false
theorem sgB_ok {σ : List (Option Nat)} {j h : Nat} (hb : sgB σ j h = true) : sgOf σ j = some h := by
  unfold sgB at hb
  rw [nth_eq] at hb
  unfold sgOf
  split at hb
  · rename_i k e
    rw [e, Nat.eq_of_beq_eq_true hb]
  · cases hb

mutual
/-- The new value says no more than the old one, the rows renumbered: what is asked. -/
def tfit (σ : List (Option Nat)) : TV A → TV A → Option (List Prop)
  | .dead, _ => some []
  | .und, .und => some []
  | .bool b', .bool b => some [b' = b]
  | .int k' n', .int k n => cond (kEq k' k) (some [n' = n]) none
  | .str s', .str s => some [s' = s]
  | .nilp, .nilp => some []
  | .nils, .nils => some []
  | .nilf, .nilf => some []
  | .yld l', .yld l => some [l' = l]
  | .ptr j o', .ptr h o => cond (sgB σ j h && Nat.beq o' o) (some []) none
  | .ptrE sz' j i' o', .ptrE sz h i o => cond (sgB σ j h && Nat.beq o' o && Nat.beq sz' sz) (some [i' = i]) none
  | .sl sz' j o' n', .sl sz h o n => cond (sgB σ j h && Nat.beq sz' sz) (some [o' = o, n' = n]) none
  | .sla sz' j o' n', .sla sz h o n => cond (sgB σ j h && Nat.beq sz' sz) (some [o' = o, n' = n]) none
  | .sla sz' j o' n', .sl sz h o n => cond (sgB σ j h && Nat.beq sz' sz) (some [o' * sz = o, n' = n]) none
  | .sla sz' j o' n', .nils => some [n' = 0]
  | .lst e' xs', .lst e xs => (match Nat.decEq e e' with
    | .isTrue p => some [xs' = p ▸ xs]
    | .isFalse _ => none)
  | .lst e' xs', .nils => some [xs' = []]
  | .pel cs', .pel cs => some [cs' = cs]
  | .fn f' cs', .fn f cs => cond (Nat.beq f' f && fnB cs' cs) (tfitL σ cs' cs) none
  | .agg cs', .agg cs => tfitL σ cs' cs
  | .tup cs', .tup cs => tfitL σ cs' cs
  | _, _ => none
def tfitL (σ : List (Option Nat)) : List (TV A) → List (TV A) → Option (List Prop)
  | [], [] => some []
  | c' :: r', c :: r => (match tfit σ c' c, tfitL σ r' r with
    | some a, some b => some (a ++ b)
    | _, _ => none)
  | _, _ => none
end

theorem tfitL_len {σ : List (Option Nat)} : ∀ (cs' cs : List (TV A)) (p : List Prop), tfitL σ cs' cs = some p → cs'.length = cs.length := by
  intro cs'
  induction cs' with
  | nil => intro cs p h; cases cs <;> simp [tfitL] at h; rfl
  | cons c r ih =>
    intro cs p h
    cases cs with
    | nil => simp [tfitL] at h
    | cons d r' =>
      simp only [tfitL] at h
      split at h
      · rename_i a b _ h2; simp [ih _ _ h2]
      · cases h

mutual
theorem tfit_ok {σ : List (Option Nat)} : ∀ (v' v : TV A) (p : List Prop), tfit σ v' v = some p → Conj p → FitS σ (emb R v') (emb R v)
  | .dead, v, _, _, _ => .dead
  | .und, v, p, h, hc => by cases v <;> simp only [tfit, reduceCtorEq] at h; exact .free rfl
  | .bool b', v, p, h, hc => by
    cases v <;> simp only [tfit, reduceCtorEq, Option.some.injEq] at h
    subst h; have := hc.1; subst this; exact .free rfl
  | .int k' n', v, p, h, hc => by
    cases v <;> simp only [tfit, reduceCtorEq] at h
    rename_i k n
    cases hk : kEq k' k with
    | false => rw [hk] at h; cases h
    | true =>
      rw [hk] at h
      obtain rfl := Option.some.inj h
      have := hc.1; subst this; have := kEq_eq hk; subst this; exact .free rfl
  | .str s', v, p, h, hc => by
    cases v <;> simp only [tfit, reduceCtorEq, Option.some.injEq] at h
    subst h; have := hc.1; subst this; exact .free rfl
  | .nilp, v, p, h, hc => by cases v <;> simp only [tfit, reduceCtorEq] at h; exact .free rfl
  | .nils, v, p, h, hc => by cases v <;> simp only [tfit, reduceCtorEq] at h; exact .free rfl
  | .nilf, v, p, h, hc => by cases v <;> simp only [tfit, reduceCtorEq] at h; exact .free rfl
  | .yld l', v, p, h, hc => by
    cases v <;> simp only [tfit, reduceCtorEq, Option.some.injEq] at h
    subst h; have := hc.1; subst this; exact .free rfl
  | .ptr j o', v, p, h, hc => by
    cases v <;> simp only [tfit, reduceCtorEq] at h
    rename_i k o
    cases hk : sgB σ j k && Nat.beq o' o with
    | false => rw [hk] at h; cases h
    | true =>
      simp only [Bool.and_eq_true] at hk
      have := Nat.eq_of_beq_eq_true hk.2; subst this
      exact .ptr (sgB_ok hk.1)
  | .ptrE sz' j i' o', v, p, h, hc => by
    cases v <;> simp only [tfit, reduceCtorEq] at h
    rename_i sz k i o
    cases hk : sgB σ j k && Nat.beq o' o && Nat.beq sz' sz with
    | false => rw [hk] at h; cases h
    | true =>
      rw [hk] at h
      obtain rfl := Option.some.inj h
      simp only [Bool.and_eq_true] at hk
      have := Nat.eq_of_beq_eq_true hk.1.2; subst this
      have := Nat.eq_of_beq_eq_true hk.2; subst this
      have := hc.1; subst this
      exact .ptr (sgB_ok hk.1.1)
  | .sl sz' j o' n', v, p, h, hc => by
    cases v <;> simp only [tfit, reduceCtorEq] at h
    rename_i sz k o n
    cases hk : sgB σ j k && Nat.beq sz' sz with
    | false => rw [hk] at h; cases h
    | true =>
      rw [hk] at h
      obtain rfl := Option.some.inj h
      simp only [Bool.and_eq_true] at hk
      have := Nat.eq_of_beq_eq_true hk.2; subst this
      obtain ⟨rfl, rfl, _⟩ := hc
      exact .sl (sgB_ok hk.1)
  | .sla sz' j o' n', v, p, h, hc => by
    cases v <;> simp only [tfit, reduceCtorEq] at h
    · obtain rfl := Option.some.inj h
      obtain ⟨rfl, _⟩ := hc
      exact .slnil
    · rename_i sz k o n
      cases hk : sgB σ j k && Nat.beq sz' sz with
      | false => rw [hk] at h; cases h
      | true =>
        rw [hk] at h
        obtain rfl := Option.some.inj h
        simp only [Bool.and_eq_true] at hk
        have := Nat.eq_of_beq_eq_true hk.2; subst this
        obtain ⟨rfl, rfl, _⟩ := hc
        exact .sl (sgB_ok hk.1)
    · rename_i sz k o n
      cases hk : sgB σ j k && Nat.beq sz' sz with
      | false => rw [hk] at h; cases h
      | true =>
        rw [hk] at h
        obtain rfl := Option.some.inj h
        simp only [Bool.and_eq_true] at hk
        have := Nat.eq_of_beq_eq_true hk.2; subst this
        obtain ⟨rfl, rfl, _⟩ := hc
        exact .sl (sgB_ok hk.1)
  | .lst e' xs', v, p, h, hc => by
    cases v <;> simp only [tfit, reduceCtorEq] at h
    · obtain rfl := Option.some.inj h
      obtain ⟨rfl, _⟩ := hc
      exact .psnil
    · rename_i e xs
      split at h
      · rename_i q _
        subst q
        obtain rfl := Option.some.inj h
        obtain ⟨rfl, _⟩ := hc
        exact .free rfl
      · cases h
  | .pel cs', v, p, h, hc => by
    cases v <;> simp only [tfit, reduceCtorEq, Option.some.injEq] at h
    subst h; have := hc.1; subst this; exact .free rfl
  | .fn f' cs', v, p, h, hc => by
    cases v <;> simp only [tfit, reduceCtorEq] at h
    rename_i f cs
    cases hk : Nat.beq f' f && fnB cs' cs with
    | false => rw [hk] at h; cases h
    | true =>
      rw [hk] at h
      rw [Bool.and_eq_true] at hk
      have := Nat.eq_of_beq_eq_true hk.1; subst this
      exact .fn (fnB_ok hk.2) (by rw [embC_length, embC_length]; exact tfitL_len _ _ _ h) (tfitL_ok cs' cs p h hc)
  | .agg cs', v, p, h, hc => by
    cases v <;> simp only [tfit, reduceCtorEq] at h
    rename_i cs
    exact .agg (by rw [embC_length, embC_length]; exact tfitL_len _ _ _ h) (tfitL_ok cs' cs p h hc)
  | .tup cs', v, p, h, hc => by
    cases v <;> simp only [tfit, reduceCtorEq] at h
    rename_i cs
    exact .tup (by rw [embC_length, embC_length]; exact tfitL_len _ _ _ h) (tfitL_ok cs' cs p h hc)
  | .opt g w, v, p, h, hc => by cases v <;> simp only [tfit, reduceCtorEq] at h
theorem tfitL_ok {σ : List (Option Nat)} : ∀ (cs' cs : List (TV A)) (p : List Prop), tfitL σ cs' cs = some p → Conj p → ∀ i (h1 : i < (embC R cs').length) (h2 : i < (embC R cs).length), FitS σ (embC R cs')[i] (embC R cs)[i]
  | [], cs, p, h, hc => fun i h1 => by simp [embC] at h1
  | c' :: r', [], p, h, hc => by simp [tfitL] at h
  | c' :: r', c :: r, p, h, hc => by
    simp only [tfitL] at h
    split at h
    · rename_i a b ha hb
      obtain rfl := Option.some.inj h
      obtain ⟨c1, c2⟩ := Conj.app hc
      intro i h1 h2
      cases i with
      | zero => exact tfit_ok c' c a ha c1
      | succ i =>
        simp only [embC, List.getElem_cons_succ]
        exact tfitL_ok r' r b hb c2 i (by simpa [embC] using h1) (by simpa [embC] using h2)
    · cases h
end

def trfit (σ : List (Option Nat)) : TRow A → TRow A → Option (List Prop)
  | .cells cs', .cells cs => tfitL σ cs' cs
  | .arr e' xs', .arr e xs => (match Nat.decEq e e' with
    | .isTrue p => some [xs' = p ▸ xs]
    | .isFalse _ => none)
  | .arr e' xs', .cells cs => some [xs'.flatMap (R.encL e') = embC R cs]
  | _, _ => none

theorem trfit_ok (hR : R.Ok) {σ : List (Option Nat)} {r' r : TRow A} {p : List Prop} (h : trfit R σ r' r = some p) (hc : Conj p) :
    (embR R r').length = (embR R r).length ∧ ∀ i (h1 : i < (embR R r').length) (h2 : i < (embR R r).length), FitS σ (embR R r')[i] (embR R r)[i] := by
  cases r' with
  | cells cs' =>
    cases r with
    | cells cs =>
      simp only [trfit] at h
      exact ⟨by simp only [embR, embC_length]; exact tfitL_len _ _ _ h, tfitL_ok R cs' cs p h hc⟩
    | arr e xs => cases h
  | arr e' xs' =>
    have fr : ∀ i (h1 : i < (embR R (.arr e' xs')).length), hfree (embR R (.arr e' xs'))[i] = true := fun i h1 => hfreeL_get (hfreeL_flat (hR.free e') xs') i h1
    cases r with
    | cells cs =>
      obtain rfl := Option.some.inj h
      obtain ⟨c1, _⟩ := hc
      refine ⟨by simp only [embR]; rw [c1], fun i h1 h2 => ?_⟩
      have e1 : (embR R (TRow.cells cs))[i] = (embR R (.arr e' xs'))[i] := by simp only [embR, c1]
      rw [e1]
      exact .free (fr i h1)
    | arr e xs =>
      simp only [trfit] at h
      split at h
      · rename_i q _
        subst q
        obtain rfl := Option.some.inj h
        obtain ⟨c1, _⟩ := hc
        simp only at c1
        subst c1
        exact ⟨rfl, fun i h1 h2 => .free (fr i h1)⟩
      · cases h

def fitF (σ : List (Option Nat)) (F : TF A) : TF A → Option (List Prop)
  | [] => some []
  | (t, v) :: r => (match tfit σ v (tget F t), fitF σ F r with
    | some a, some b => some (a ++ b)
    | _, _ => none)

theorem fitF_ok {σ : List (Option Nat)} {F : TF A} : ∀ (F' : TF A) (p : List Prop), fitF σ F F' = some p → Conj p → ∀ t, FitS σ (fget (embF R F') t) (fget (embF R F) t) := by
  intro F'
  induction F' with
  | nil => intro p _ _ t; exact .dead
  | cons q r ih =>
    intro p h hc t
    obtain ⟨s, v⟩ := q
    simp only [fitF] at h
    split at h
    · rename_i a b ha hb
      obtain rfl := Option.some.inj h
      obtain ⟨c1, c2⟩ := Conj.app hc
      rw [fget_embF, fget_embF]
      simp only [tget]
      cases hst : Nat.beq s t with
      | true =>
        have := Nat.eq_of_beq_eq_true hst; subst this
        exact tfit_ok R v _ a ha c1
      | false =>
        have := ih b hb c2 t
        rwa [fget_embF, fget_embF] at this
    · cases h

def fitH (σ : List (Option Nat)) (H : TH A) : Nat → TH A → Option (List Prop)
  | _, [] => some []
  | j, none :: r => fitH σ H (j + 1) r
  | j, some x :: r => (match (match nth σ j with
      | some (some h) => (match trow H h with | some y => trfit R σ x y | none => none)
      | some none => (match x with | .arr e xs => some [xs = []] | .cells _ => none)
      | none => none), fitH σ H (j + 1) r with
    | some a, some b => some (a ++ b)
    | _, _ => none)

theorem fitH_ok (hR : R.Ok) {σ : List (Option Nat)} {H : TH A} : ∀ (H' : TH A) (k : Nat) (p : List Prop), fitH R σ H k H' = some p → Conj p → ∀ (j : Nat) (cs' : List LV), (embH R H')[j]? = some (some cs') →
    (sgOf σ (k + j) = none ∧ cs' = []) ∨ ∃ h cs, sgOf σ (k + j) = some h ∧ (embH R H)[h]? = some (some cs) ∧ cs'.length ≤ cs.length ∧ ∀ i (h1 : i < cs'.length) (h2 : i < cs.length), FitS σ cs'[i] cs[i] := by
  intro H'
  induction H' with
  | nil => intro k p _ _ j cs' h; simp [embH] at h
  | cons x r ih =>
    intro k p h hc j cs' hj
    cases x with
    | none =>
      simp only [fitH] at h
      cases j with
      | zero => simp [embH, embO] at hj
      | succ j =>
        have := ih (k + 1) p h hc j cs' (by simpa [embH] using hj)
        rwa [show k + 1 + j = k + (j + 1) by omega] at this
    | some x =>
      simp only [fitH] at h
      split at h
      · rename_i a b ha hb
        obtain rfl := Option.some.inj h
        obtain ⟨c1, c2⟩ := Conj.app hc
        cases j with
        | succ j =>
          have := ih (k + 1) b hb c2 j cs' (by simpa [embH] using hj)
          rwa [show k + 1 + j = k + (j + 1) by omega] at this
        | zero =>
          simp only [embH, embO, List.getElem?_cons_zero, Option.some.injEq] at hj
          subst hj
          rw [Nat.add_zero]
          split at ha
          · rename_i h' hs
            rw [nth_eq] at hs
            split at ha
            · rename_i y hy
              obtain ⟨t1, t2⟩ := trfit_ok R hR ha c1
              refine .inr ⟨h', embR R y, by simp [sgOf, hs], ?_, by omega, t2⟩
              have := row_emb R hy
              unfold row at this
              split at this
              · rename_i z hz; rw [hz]; exact congrArg some this
              · cases this
            · cases ha
          · rename_i hs
            rw [nth_eq] at hs
            split at ha
            · obtain rfl := Option.some.inj ha
              obtain ⟨c3, _⟩ := c1
              subst c3
              exact .inl ⟨by simp [sgOf, hs], rfl⟩
            · cases ha
          · cases ha
      · cases h

def memO (h : Nat) : List (Option Nat) → Bool
  | [] => false
  | none :: r => memO h r
  | some k :: r => Nat.beq k h || memO h r
def sgNd : List (Option Nat) → Bool
  | [] => true
  | none :: r => sgNd r
  | some h :: r => !(memO h r) && sgNd r

theorem memO_get {h : Nat} : ∀ {σ : List (Option Nat)} {j : Nat}, σ[j]? = some (some h) → memO h σ = true := by
  intro σ
  induction σ with
  | nil => intro j hj; simp at hj
  | cons x r ih =>
    intro j hj
    cases j with
    | zero => simp at hj; subst hj; simp [memO]
    | succ j =>
      have := ih (j := j) (by simpa using hj)
      cases x <;> simp [memO, this]

theorem sgNd_ok : ∀ {σ : List (Option Nat)}, sgNd σ = true → ∀ (j j' h : Nat), σ[j]? = some (some h) → σ[j']? = some (some h) → j = j' := by
  intro σ
  induction σ with
  | nil => intro _ j j' h hj; simp at hj
  | cons x r ih =>
    intro hn j j' h hj hj'
    have hr : sgNd r = true := by cases x <;> simp [sgNd] at hn <;> first | exact hn | exact hn.2
    cases j with
    | zero =>
      cases j' with
      | zero => rfl
      | succ j' =>
        simp at hj hj'
        subst hj
        simp [sgNd] at hn
        rw [memO_get hj'] at hn
        simp at hn
    | succ j =>
      cases j' with
      | zero =>
        simp at hj hj'
        subst hj'
        simp [sgNd] at hn
        rw [memO_get hj] at hn
        simp at hn
      | succ j' => rw [ih hr j j' h (by simpa using hj) (by simpa using hj')]

def keepB (σ : List (Option Nat)) : Nat → Bool
  | 0 => true
  | m + 1 => sgB σ m m && keepB σ m
theorem keepB_ok {σ : List (Option Nat)} : ∀ (m : Nat), keepB σ m = true → ∀ j, j < m → sgOf σ j = some j := by
  intro m
  induction m with
  | zero => intro _ j hj; omega
  | succ m ih =>
    intro h j hj
    simp only [keepB, Bool.and_eq_true] at h
    rcases Nat.lt_or_ge j m with h1 | h1
    · exact ih h.2 j h1
    · have : j = m := by omega
      subst this; exact sgB_ok h.1

/-- From what is known to less, the rows renumbered: what is asked. -/
def tcanon (m : Nat) (σ : List (Option Nat)) (F' : TF A) (H' : TH A) (F : TF A) (H : TH A) : Option (List Prop) :=
  cond (Nat.beq σ.length H'.length && sgNd σ && keepB σ m) (match fitF σ F F', fitH R σ H 0 H' with
    | some a, some b => some (a ++ b)
    | _, _ => none) none

theorem tcanon_ok (hR : R.Ok) {N : Dim} {σ : List (Option Nat)} {F F' : TF A} {H H' : TH A} {p : List Prop} (h : tcanon R N.m σ F' H' F H = some p) (hc : Conj p) : Wk N (embF R F') (embH R H') (embF R F) (embH R H) := by
  unfold tcanon at h
  cases hb : Nat.beq σ.length H'.length && sgNd σ && keepB σ N.m with
  | false => rw [hb] at h; cases h
  | true =>
    rw [hb] at h
    simp only [cond_true] at h
    simp only [Bool.and_eq_true] at hb
    split at h
    · rename_i a b ha hb2
      obtain rfl := Option.some.inj h
      obtain ⟨c1, c2⟩ := Conj.app hc
      refine .canon σ (by rw [embH_length]; exact Nat.eq_of_beq_eq_true hb.1.1) (fun j j' h hj hj' => ?_) (keepB_ok _ hb.2) (fitF_ok R F' a ha c1) (fun j cs' hj => ?_)
      · have sg : ∀ j, sgOf σ j = some h → σ[j]? = some (some h) := by
          intro j hj
          unfold sgOf at hj
          split at hj
          · rename_i x hx; rw [hx, hj]
          · cases hj
        exact sgNd_ok hb.1.2 j j' h (sg j hj) (sg j' hj')
      · have := fitH_ok R hR H' 0 b hb2 c2 j cs' hj
        rwa [Nat.zero_add] at this
    · cases h

/-! ### Freezing -/
def tfz (r e : Nat) (xs : List (A e)) : Nat → TV A → List Prop × TV A
  | 0, _ => ([], .dead)
  | k + 1, v => match v with
    | .sla sz h o n => cond (Nat.beq h r) (cond (Nat.beq sz (R.sz e)) ([o + n ≤ xs.length], .lst e (cut xs o n)) ([], .dead)) ([], .sla sz h o n)
    | .ptrE sz h i o => cond (Nat.beq h r) ([], .dead) ([], .ptrE sz h i o)
    | .ptr h o => cond (Nat.beq h r) ([], .dead) ([], .ptr h o)
    | .sl sz h o n => cond (Nat.beq h r) ([], .dead) ([], .sl sz h o n)
    | .fn f cs => cond (fnB ((cs.map (tfz r e xs k)).map (·.2)) cs) ((cs.map (tfz r e xs k)).flatMap (·.1), .fn f ((cs.map (tfz r e xs k)).map (·.2))) ([], .dead)
    | .agg cs => ((cs.map (tfz r e xs k)).flatMap (·.1), .agg ((cs.map (tfz r e xs k)).map (·.2)))
    | .tup cs => ((cs.map (tfz r e xs k)).flatMap (·.1), .tup ((cs.map (tfz r e xs k)).map (·.2)))
    | .opt _ _ => ([], .dead)
    | v => ([], v)

theorem beq_ne {a b : Nat} (h : Nat.beq a b = false) : a ≠ b := fun e => by subst e; simp at h

theorem tfz_ok (hR : R.Ok) {r e : Nat} {xs : List (A e)} : ∀ (k : Nat) (v : TV A), Conj (tfz R r e xs k v).1 → WeakS (emb R (tfz R r e xs k v).2) (fz r (xs.flatMap (R.encL e)) (emb R v)) := by
  intro k
  induction k with
  | zero => intro v _; exact .dead
  | succ k ih =>
    have ihL : ∀ (cs : List (TV A)), Conj ((cs.map (tfz R r e xs k)).flatMap (·.1)) → (embC R ((cs.map (tfz R r e xs k)).map (·.2))).length = (fzL r (xs.flatMap (R.encL e)) (embC R cs)).length ∧
        ∀ i (h1 : i < (embC R ((cs.map (tfz R r e xs k)).map (·.2))).length) (h2 : i < (fzL r (xs.flatMap (R.encL e)) (embC R cs)).length), WeakS (embC R ((cs.map (tfz R r e xs k)).map (·.2)))[i] (fzL r (xs.flatMap (R.encL e)) (embC R cs))[i] := by
      intro cs hc
      refine ⟨by rw [fzL_eq, List.length_map, embC_length, embC_length]; simp, fun i h1 h2 => ?_⟩
      have hi : i < cs.length := by rw [embC_length] at h1; simpa using h1
      have hci := Conj.flat hc (tfz R r e xs k cs[i]) (List.mem_map.2 ⟨cs[i], List.getElem_mem hi, rfl⟩)
      have := ih _ hci
      simp only [fzL_eq, embC_eq, List.getElem_map] at *
      exact this
    intro v hc
    cases v with
    | sla sz h o n =>
      simp only [tfz] at hc ⊢
      cases hb : Nat.beq h r with
      | false =>
        simp only [cond_false, emb, fz]
        rw [if_neg (beq_ne hb)]
        exact .refl _
      | true =>
        rw [hb] at hc
        simp only [cond_true] at hc ⊢
        cases hs : Nat.beq sz (R.sz e) with
        | false => exact .dead
        | true =>
          rw [hs] at hc
          simp only [cond_true] at hc ⊢
          obtain ⟨c1, _⟩ := hc
          have := Nat.eq_of_beq_eq_true hs; subst this
          have hle : o * R.sz e + n * R.sz e ≤ (xs.flatMap (R.encL e)).length := by
            rw [fm_length (hR.len e), ← Nat.add_mul]; exact Nat.mul_le_mul_right _ c1
          simp only [emb, fz]
          rw [if_pos (Nat.eq_of_beq_eq_true hb), if_pos hle, fm_drop (hR.len e), fm_take (hR.len e), ← cut_eq, cut_length c1]
          exact .refl _
    | ptrE sz h i o =>
      simp only [tfz]
      cases hb : Nat.beq h r with
      | false => simp only [cond_false, emb, fz]; rw [if_neg (beq_ne hb)]; exact .refl _
      | true => exact .dead
    | ptr h o =>
      simp only [tfz]
      cases hb : Nat.beq h r with
      | false => simp only [cond_false, emb, fz]; rw [if_neg (beq_ne hb)]; exact .refl _
      | true => exact .dead
    | sl sz h o n =>
      simp only [tfz]
      cases hb : Nat.beq h r with
      | false => simp only [cond_false, emb, fz]; rw [if_neg (beq_ne hb)]; exact .refl _
      | true => exact .dead
    | fn f cs =>
      simp only [tfz] at hc ⊢
      cases hb : fnB ((cs.map (tfz R r e xs k)).map (·.2)) cs with
      | false => simp only [cond_false]; exact .dead
      | true =>
        rw [hb] at hc
        simp only [cond_true] at hc ⊢
        simp only [emb, fz]
        exact .fn (by rw [fnB_ok hb, fzL_eq]; exact (isUnd_map fz_und _).symm) (ihL cs hc).1 (ihL cs hc).2
    | agg cs => simp only [tfz] at hc ⊢; simp only [emb, fz]; exact .agg (ihL cs hc).1 (ihL cs hc).2
    | tup cs => simp only [tfz] at hc ⊢; simp only [emb, fz]; exact .tup (ihL cs hc).1 (ihL cs hc).2
    | opt g v => exact .dead
    | _ => simp only [tfz, emb, fz]; exact .refl _

def tfzF (r e : Nat) (xs : List (A e)) : TF A → List Prop × TF A
  | [] => ([], [])
  | (t, v) :: F => (match tfz R r e xs 3 v, tfzF r e xs F with | (p, v'), (q, F') => (p ++ q, (t, v') :: F'))
def tfzH (r e : Nat) (xs : List (A e)) : Nat → TH A → List Prop × TH A
  | _, [] => ([], [])
  | j, none :: H => (match tfzH r e xs (j + 1) H with | (q, H') => (q, none :: H'))
  | j, some (.arr e' ys) :: H => (match tfzH r e xs (j + 1) H with | (q, H') => (q, cond (Nat.beq j r) none (some (.arr e' ys)) :: H'))
  | j, some (.cells cs) :: H => (match tfzH r e xs (j + 1) H with | (q, H') => ((cs.map (tfz R r e xs 3)).flatMap (·.1) ++ q, some (.cells ((cs.map (tfz R r e xs 3)).map (·.2))) :: H'))

theorem tfzF_ok (hR : R.Ok) {r e : Nat} {xs : List (A e)} : ∀ (F : TF A), Conj (tfzF R r e xs F).1 → ∀ t, WeakS (fget (embF R (tfzF R r e xs F).2) t) (fget (fzF r (xs.flatMap (R.encL e)) (embF R F)) t) := by
  intro F
  induction F with
  | nil => intro _ t; exact .dead
  | cons q F ih =>
    intro hc t
    obtain ⟨s, v⟩ := q
    simp only [tfzF] at hc ⊢
    obtain ⟨c1, c2⟩ := Conj.app hc
    simp only [embF, fzF, fget]
    cases Nat.beq s t with
    | true => exact tfz_ok R hR 3 v c1
    | false => exact ih c2 t

theorem tfzH_len {r e : Nat} {xs : List (A e)} : ∀ (H : TH A) (k : Nat), (tfzH R r e xs k H).2.length = H.length := by
  intro H
  induction H with
  | nil => intro k; rfl
  | cons x H ih =>
    intro k
    cases x with
    | none => simp [tfzH, ih]
    | some x => cases x <;> simp [tfzH, ih]

theorem tfzH_ok (hR : R.Ok) {r e : Nat} {xs : List (A e)} : ∀ (H : TH A) (k : Nat), Conj (tfzH R r e xs k H).1 → (∀ cs : List (TV A), k ≤ r → H[r - k]? ≠ some (some (TRow.cells cs))) →
    ∀ (j : Nat) (cs' : List LV), (embH R (tfzH R r e xs k H).2)[j]? = some (some cs') → k + j ≠ r ∧ ∃ cs, (embH R H)[j]? = some (some cs) ∧ cs'.length = (fzL r (xs.flatMap (R.encL e)) cs).length ∧
      ∀ i (h1 : i < cs'.length) (h2 : i < (fzL r (xs.flatMap (R.encL e)) cs).length), WeakS cs'[i] (fzL r (xs.flatMap (R.encL e)) cs)[i] := by
  intro H
  induction H with
  | nil => intro k _ _ j cs' h; simp [tfzH, embH] at h
  | cons x H ih =>
    intro k hc hnc j cs' hj
    have next : ∀ {j}, Conj (tfzH R r e xs (k + 1) H).1 → (embH R (tfzH R r e xs (k + 1) H).2)[j]? = some (some cs') → k + (j + 1) ≠ r ∧ ∃ cs, (embH R (x :: H))[j + 1]? = some (some cs) ∧ cs'.length = (fzL r (xs.flatMap (R.encL e)) cs).length ∧
        ∀ i (h1 : i < cs'.length) (h2 : i < (fzL r (xs.flatMap (R.encL e)) cs).length), WeakS cs'[i] (fzL r (xs.flatMap (R.encL e)) cs)[i] := by
      intro j hc hj
      obtain ⟨h1, cs, h2, h3⟩ := ih (k + 1) hc (fun cs hk => by
        have := hnc cs (by omega)
        rwa [show r - k = (r - (k + 1)) + 1 by omega, List.getElem?_cons_succ] at this) j cs' hj
      exact ⟨by omega, cs, by simpa [embH] using h2, h3⟩
    cases x with
    | none =>
      simp only [tfzH] at hc hj
      cases j with
      | zero => simp [embH, embO] at hj
      | succ j => exact next hc (by simpa [embH] using hj)
    | some x =>
      cases x with
      | arr e' ys =>
        simp only [tfzH] at hc hj
        cases j with
        | succ j => exact next hc (by simpa [embH] using hj)
        | zero =>
          simp only [embH, List.getElem?_cons_zero, Option.some.injEq] at hj
          cases hb : Nat.beq k r with
          | true => rw [hb] at hj; simp [embO] at hj
          | false =>
            rw [hb] at hj
            simp only [cond_false, embO, Option.some.injEq, embR] at hj
            subst hj
            refine ⟨by have := beq_ne hb; omega, ys.flatMap (R.encL e'), by simp [embH, embO, embR], ?_⟩
            have fr := hfreeL_flat (hR.free e') ys
            have : fzL r (xs.flatMap (R.encL e)) (ys.flatMap (R.encL e')) = ys.flatMap (R.encL e') := by
              rw [fzL_eq]
              have key : ∀ (n : Nat) (x : LV), SizeOf.sizeOf x < n → hfree x = true → fz r (xs.flatMap (R.encL e)) x = x := by
                intro n
                induction n with
                | zero => intro x h; omega
                | succ n ih =>
                  intro x hs hx
                  have keyL : ∀ (cs : List LV), SizeOf.sizeOf cs < n → hfreeL cs = true → fzL r (xs.flatMap (R.encL e)) cs = cs := by
                    intro cs hcs hf
                    rw [fzL_eq]
                    have : ∀ c ∈ cs, fz r (xs.flatMap (R.encL e)) c = c := fun c hc => by
                      obtain ⟨i, hi, rfl⟩ := List.getElem_of_mem hc
                      have := List.sizeOf_lt_of_mem hc
                      exact ih _ (by omega) (hfreeL_get hf i hi)
                    rw [List.map_congr_left this]; simp
                  cases x <;> simp only [hfree, reduceCtorEq] at hx <;> simp only [fz]
                  · rw [keyL _ (by simp at hs; omega) hx]
                  · rw [keyL _ (by simp at hs; omega) hx]
                  · rw [keyL _ (by simp at hs; omega) hx]
              have : ∀ c ∈ ys.flatMap (R.encL e'), fz r (xs.flatMap (R.encL e)) c = c := fun c hc => by
                obtain ⟨i, hi, rfl⟩ := List.getElem_of_mem hc
                exact key _ _ (Nat.lt_succ_self _) (hfreeL_get fr i hi)
              rw [List.map_congr_left this]; simp
            exact ⟨by rw [this], fun i h1 h2 => by simp only [this]; exact .refl _⟩
      | cells cs =>
        simp only [tfzH] at hc hj
        obtain ⟨c1, c2⟩ := Conj.app hc
        cases j with
        | succ j => exact next c2 (by simpa [embH] using hj)
        | zero =>
          simp only [embH, embO, embR, List.getElem?_cons_zero, Option.some.injEq] at hj
          subst hj
          refine ⟨fun e => ?_, embC R cs, by simp [embH, embO, embR], by rw [fzL_eq, List.length_map, embC_length, embC_length]; simp, fun i h1 h2 => ?_⟩
          · have := hnc cs (by omega)
            rw [show r - k = 0 by omega] at this
            simp at this
          · have hi : i < cs.length := by rw [embC_length] at h1; simpa using h1
            have hci := Conj.flat c1 (tfz R r e xs 3 cs[i]) (List.mem_map.2 ⟨cs[i], List.getElem_mem hi, rfl⟩)
            have := tfz_ok R hR 3 _ hci
            simp only [fzL_eq, embC_eq, List.getElem_map] at *
            exact this

/-- A row that nobody writes any more becomes plain. -/
theorem tfreeze_ok (hR : R.Ok) {N : Dim} {F : TF A} {H : TH A} {r e : Nat} {xs : List (A e)} (hm : Nat.ble N.m r = true) (hr : trow H r = some (.arr e xs)) (hcF : Conj (tfzF R r e xs F).1) (hcH : Conj (tfzH R r e xs 0 H).1) :
    Wk N (embF R (tfzF R r e xs F).2) (embH R (tfzH R r e xs 0 H).2) (embF R F) (embH R H) := by
  have hrow : (embH R H)[r]? = some (some (xs.flatMap (R.encL e))) := by
    have := row_emb R hr
    unfold row at this
    split at this
    · rename_i z hz; rw [hz]; exact congrArg some this
    · cases this
  have hrr : H[r]? = some (some (.arr e xs)) := by
    unfold trow at hr
    rw [nth_eq] at hr
    split at hr
    · rename_i z hz; rw [hz]; exact congrArg some hr
    · cases hr
  refine .trans (.weak ?_ (tfzF_ok R hR F hcF) (fun j cs' hj => ?_)) (.freeze (Nat.le_of_ble_eq_true hm) hrow (hfreeL_flat (hR.free e) xs))
  · rw [embH_length, tfzH_len, List.length_set, List.length_map, embH_length]
  · obtain ⟨h1, cs, h2, h3, h4⟩ := tfzH_ok R hR H 0 hcH (fun cs _ => by rw [Nat.sub_zero, hrr]; simp) j cs' hj
    refine ⟨_, ?_, h3, h4⟩
    rw [List.getElem?_set_ne (by omega), List.getElem?_map, h2]
    rfl

end
end Go.Lite
