/- Lite, parts Z. -/
import Derived.Test.YtihminfnphichaaLiteTF
import Derived.Test.YtihminfnphichaaLiteN
set_option linter.unusedVariables false
set_option linter.unusedSimpArgs false

/- Lite, part TG: rows renamed, forgotten, shown and frozen, on typed values. -/
namespace Go.Lite
open Go Go.RowKit
set_option linter.unusedVariables false

theorem ren_free (g : Nat → Nat) (x : LV) (hx : hfree x = true) : ren g x = x := by
  have key : ∀ (n : Nat) (g : Nat → Nat) (x : LV), SizeOf.sizeOf x < n → hfree x = true → ren g x = x := by
    intro n
    induction n with
    | zero => intro g x h; omega
    | succ n ih =>
      intro g x hs hx
      have keyL : ∀ (cs : List LV), SizeOf.sizeOf cs < n → hfreeL cs = true → renL g cs = cs := by
        intro cs hcs hf
        rw [renL_eq]
        have : ∀ c ∈ cs, ren g c = c := fun c hc => by
          obtain ⟨i, hi, rfl⟩ := List.getElem_of_mem hc
          have := List.sizeOf_lt_of_mem hc
          exact ih g _ (by omega) (hfreeL_get hf i hi)
        rw [List.map_congr_left this]; simp
      cases x <;> simp only [hfree, reduceCtorEq] at hx <;> simp only [ren]
      · rw [keyL _ (by simp at hs; omega) hx]
      · rw [keyL _ (by simp at hs; omega) hx]
      · rw [keyL _ (by simp at hs; omega) hx]
  exact key _ g x (Nat.lt_succ_self _) hx

theorem hfreeL_flat {α : Type} {f : α → List LV} (h : ∀ a, hfreeL (f a) = true) (xs : List α) : hfreeL (xs.flatMap f) = true := by
  have app : ∀ (a b : List LV), hfreeL a = true → hfreeL b = true → hfreeL (a ++ b) = true := by
    intro a
    induction a with
    | nil => intro b _ hb; exact hb
    | cons c r ih =>
      intro b ha hb
      simp only [hfreeL, Bool.and_eq_true, List.cons_append] at *
      exact ⟨ha.1, ih b ha.2 hb⟩
  induction xs with
  | nil => rfl
  | cons x r ih => rw [List.flatMap_cons]; exact app _ _ (h x) ih

theorem renL_free (g : Nat → Nat) {cs : List LV} (h : hfreeL cs = true) : renL g cs = cs := by
  rw [renL_eq]
  have : ∀ c ∈ cs, ren g c = c := fun c hc => by
    obtain ⟨i, hi, rfl⟩ := List.getElem_of_mem hc
    exact ren_free g _ (hfreeL_get h i hi)
  rw [List.map_congr_left this]; simp

section
variable {A : Nat → Type} (R : Reg A)

mutual
def tren (g : Nat → Nat) : TV A → TV A
  | .ptr h o => .ptr (g h) o
  | .ptrE sz h i o => .ptrE sz (g h) i o
  | .sl sz h o n => .sl sz (g h) o n
  | .sla sz h o n => .sla sz (g h) o n
  | .fn f cs => .fn f (trenL g cs)
  | .agg cs => .agg (trenL g cs)
  | .tup cs => .tup (trenL g cs)
  | .opt b v => .opt b (tren g v)
  | .dead => .dead
  | .und => .und
  | .bool b => .bool b
  | .int k n => .int k n
  | .str s => .str s
  | .nilp => .nilp
  | .nils => .nils
  | .nilf => .nilf
  | .yld l => .yld l
  | .pel cs => .pel cs
  | .lst e xs => .lst e xs
def trenL (g : Nat → Nat) : List (TV A) → List (TV A)
  | [] => []
  | c :: r => tren g c :: trenL g r
end

mutual
theorem tren_emb (g : Nat → Nat) : ∀ (v : TV A), emb R (tren g v) = ren g (emb R v)
  | .ptr _ _ => rfl
  | .ptrE _ _ _ _ => rfl
  | .sl _ _ _ _ => rfl
  | .sla _ _ _ _ => rfl
  | .fn f cs => by simp only [tren, emb, ren]; rw [trenL_emb g cs]
  | .agg cs => by simp only [tren, emb, ren]; rw [trenL_emb g cs]
  | .tup cs => by simp only [tren, emb, ren]; rw [trenL_emb g cs]
  | .opt b v => by
    simp only [tren, emb]
    cases b
    · rfl
    · exact tren_emb g v
  | .dead => rfl
  | .und => rfl
  | .bool _ => rfl
  | .int _ _ => rfl
  | .str _ => rfl
  | .nilp => rfl
  | .nils => rfl
  | .nilf => rfl
  | .yld _ => rfl
  | .pel _ => rfl
  | .lst _ _ => rfl
theorem trenL_emb (g : Nat → Nat) : ∀ (cs : List (TV A)), embC R (trenL g cs) = renL g (embC R cs)
  | [] => rfl
  | c :: r => by simp only [trenL, embC, renL]; rw [tren_emb g c, trenL_emb g r]
end

def trenR (g : Nat → Nat) : Option (TRow A) → Option (TRow A)
  | none => none
  | some (.cells cs) => some (.cells (trenL g cs))
  | some (.arr e xs) => some (.arr e xs)

theorem trenR_emb (hR : R.Ok) (g : Nat → Nat) (r : Option (TRow A)) : embO R (trenR g r) = renR g (embO R r) := by
  cases r with
  | none => rfl
  | some r =>
    cases r with
    | cells cs => simp only [trenR, embO, embR, renR, trenL_emb]
    | arr e xs => simp only [trenR, embO, embR, renR, renL_free g (hfreeL_flat (hR.free e) xs)]

def trenH (g : Nat → Nat) : TH A → TH A
  | [] => []
  | r :: H => trenR g r :: trenH g H
theorem trenH_emb (hR : R.Ok) (g : Nat → Nat) (H : TH A) : embH R (trenH g H) = (embH R H).map (renR g) := by
  induction H with
  | nil => rfl
  | cons r H ih => simp only [trenH, embH, List.map_cons, trenR_emb R hR, ih]

mutual
def thfree : TV A → Bool
  | .ptr _ _ | .ptrE _ _ _ _ | .sl _ _ _ _ | .sla _ _ _ _ => false
  | .fn _ cs => thfreeL cs
  | .agg cs => thfreeL cs
  | .tup cs => thfreeL cs
  | .opt _ v => thfree v
  | .dead | .und | .bool _ | .int _ _ | .str _ | .nilp | .nils | .nilf | .yld _ | .pel _ | .lst _ _ => true
def thfreeL : List (TV A) → Bool
  | [] => true
  | c :: r => thfree c && thfreeL r
end

mutual
theorem thfree_emb : ∀ (v : TV A), thfree v = true → hfree (emb R v) = true
  | .ptr _ _, h => by simp [thfree] at h
  | .ptrE _ _ _ _, h => by simp [thfree] at h
  | .sl _ _ _ _, h => by simp [thfree] at h
  | .sla _ _ _ _, h => by simp [thfree] at h
  | .fn f cs, h => by simp only [thfree] at h; simp only [emb, hfree]; exact thfreeL_emb cs h
  | .agg cs, h => by simp only [thfree] at h; simp only [emb, hfree]; exact thfreeL_emb cs h
  | .tup cs, h => by simp only [thfree] at h; simp only [emb, hfree]; exact thfreeL_emb cs h
  | .opt b v, h => by
    simp only [thfree] at h
    simp only [emb]
    cases b
    · rfl
    · exact thfree_emb v h
  | .dead, _ => rfl
  | .und, _ => rfl
  | .bool _, _ => rfl
  | .int _ _, _ => rfl
  | .str _, _ => rfl
  | .nilp, _ => rfl
  | .nils, _ => rfl
  | .nilf, _ => rfl
  | .yld _, _ => rfl
  | .pel _, _ => rfl
  | .lst _ _, _ => rfl
theorem thfreeL_emb : ∀ (cs : List (TV A)), thfreeL cs = true → hfreeL (embC R cs) = true
  | [], _ => rfl
  | c :: r, h => by
    simp only [thfreeL, Bool.and_eq_true] at h
    simp only [embC, hfreeL, Bool.and_eq_true]
    exact ⟨thfree_emb c h.1, thfreeL_emb r h.2⟩
end

mutual
/-- It holds no plain memory. -/
def tpfree : TV A → Bool
  | .pel _ | .lst _ _ => false
  | .fn _ cs => tpfreeL cs
  | .agg cs => tpfreeL cs
  | .tup cs => tpfreeL cs
  | .opt _ v => tpfree v
  | _ => true
def tpfreeL : List (TV A) → Bool
  | [] => true
  | c :: r => tpfree c && tpfreeL r
end

mutual
theorem tpfree_emb : ∀ (v : TV A), tpfree v = true → psfree (emb R v) = true
  | .pel _, h => by simp [tpfree] at h
  | .lst _ _, h => by simp [tpfree] at h
  | .fn f cs, h => by simp only [tpfree] at h; simp only [emb, psfree]; exact tpfreeL_emb cs h
  | .agg cs, h => by simp only [tpfree] at h; simp only [emb, psfree]; exact tpfreeL_emb cs h
  | .tup cs, h => by simp only [tpfree] at h; simp only [emb, psfree]; exact tpfreeL_emb cs h
  | .opt b v, h => by
    simp only [tpfree] at h
    simp only [emb]
    cases b
    · rfl
    · exact tpfree_emb v h
  | .dead, _ => rfl
  | .und, _ => rfl
  | .bool _, _ => rfl
  | .int _ _, _ => rfl
  | .str _, _ => rfl
  | .nilp, _ => rfl
  | .nils, _ => rfl
  | .nilf, _ => rfl
  | .yld _, _ => rfl
  | .ptr _ _, _ => rfl
  | .ptrE _ _ _ _, _ => rfl
  | .sl _ _ _ _, _ => rfl
  | .sla _ _ _ _, _ => rfl
theorem tpfreeL_emb : ∀ (cs : List (TV A)), tpfreeL cs = true → psfreeL (embC R cs) = true
  | [], _ => rfl
  | c :: r, h => by
    simp only [tpfreeL, Bool.and_eq_true] at h
    simp only [embC, psfreeL, Bool.and_eq_true]
    exact ⟨tpfree_emb c h.1, tpfreeL_emb r h.2⟩
end

/-- The element types whose cells are plain numbers, bools and strings. -/
def tpfreeH (fl : Nat → Bool) : TH A → Bool
  | [] => true
  | none :: H => tpfreeH fl H
  | some (.cells cs) :: H => tpfreeL cs && tpfreeH fl H
  | some (.arr e xs) :: H => fl e && tpfreeH fl H

theorem tpfreeH_emb {fl : Nat → Bool} (hfl : ∀ e, fl e = true → ∀ a, psfreeL (R.encL e a) = true) : ∀ (H : TH A), tpfreeH fl H = true → psfreeH (embH R H) = true
  | [], _ => rfl
  | none :: H, h => by simp only [embH, embO, psfreeH]; exact tpfreeH_emb hfl H (by simpa [tpfreeH] using h)
  | some (.cells cs) :: H, h => by
    simp only [tpfreeH, Bool.and_eq_true] at h
    simp only [embH, embO, embR, psfreeH, Bool.and_eq_true]
    exact ⟨tpfreeL_emb R cs h.1, tpfreeH_emb hfl H h.2⟩
  | some (.arr e xs) :: H, h => by
    simp only [tpfreeH, Bool.and_eq_true] at h
    simp only [embH, embO, embR, psfreeH, Bool.and_eq_true]
    refine ⟨?_, tpfreeH_emb hfl H h.2⟩
    have app : ∀ (a b : List LV), psfreeL a = true → psfreeL b = true → psfreeL (a ++ b) = true := by
      intro a
      induction a with
      | nil => intro b _ hb; exact hb
      | cons c r ih =>
        intro b ha hb
        simp only [psfreeL, Bool.and_eq_true, List.cons_append] at *
        exact ⟨ha.1, ih b ha.2 hb⟩
    induction xs with
    | nil => rfl
    | cons x r ih => rw [List.flatMap_cons]; exact app _ _ (hfl e h.1 x) ih

/-! ### What a reader is shown -/
def tsnap (H : TH A) : Nat → TV A → List Prop × TV A
  | 0, v => cond (thfree v) ([], v) ([], .dead)
  | k + 1, v => match v with
    | .sla sz h o n => (match trow H h with
      | some (.arr e xs) => cond (Nat.beq sz (R.sz e)) ([o + n ≤ xs.length], .lst e (cut xs o n)) ([], .dead)
      | _ => ([], .dead))
    | .fn f cs => cond (fnB ((cs.map (tsnap H k)).map (·.2)) cs) ((cs.map (tsnap H k)).flatMap (·.1), .fn f ((cs.map (tsnap H k)).map (·.2))) ([], .dead)
    | .agg cs => ((cs.map (tsnap H k)).flatMap (·.1), .agg ((cs.map (tsnap H k)).map (·.2)))
    | .und => ([], .und)
    | .bool b => ([], .bool b)
    | .int k n => ([], .int k n)
    | .str s => ([], .str s)
    | .nilp => ([], .nilp)
    | .nils => ([], .nils)
    | .nilf => ([], .nilf)
    | .yld l => ([], .yld l)
    | .pel cs => ([], .pel cs)
    | .lst e xs => ([], .lst e xs)
    | .ptr h o => (match trow H h with
      | some (.cells cs) => (((cs.drop o).map (tsnap H k)).flatMap (·.1), .pel (((cs.drop o).map (tsnap H k)).map (·.2)))
      | _ => ([], .dead))
    | .ptrE sz h i o => (match trow H h with
      | some (.arr e xs) => cond (Nat.beq sz (R.sz e)) ([i < xs.length], .pel ((R.enc e (xs.getD i (R.d e))).drop o)) ([], .dead)
      | _ => ([], .dead))
    | .opt g w => (match w with
      | .int kd n => ([g = true], .int kd n)
      | .bool b => ([g = true], .bool b)
      | .str s => ([g = true], .str s)
      | .lst e xs => ([g = true], .lst e xs)
      | .pel cs => ([g = true], .pel cs)
      | .agg cs => ((g = true) :: (cs.map (tsnap H k)).flatMap (·.1), .agg ((cs.map (tsnap H k)).map (·.2)))
      | _ => ([], .dead))
    | _ => ([], .dead)

theorem Conj.flat {α : Type _} {f : α → List Prop} : ∀ {l : List α}, Conj (l.flatMap f) → ∀ x ∈ l, Conj (f x)
  | [], _, x, hx => by simp at hx
  | a :: r, h, x, hx => by
    rw [List.flatMap_cons] at h
    obtain ⟨h1, h2⟩ := Conj.app h
    rcases List.mem_cons.1 hx with rfl | hx
    · exact h1
    · exact Conj.flat h2 x hx

/-- A value that says no more than the other, whatever the rows. -/
def Less (x y : LV) : Prop := ∀ (w : World) (per : Nat → Prop) (ι ι' : Pl) (v : Value), VR w per ι y v → VR w per ι' x v
theorem Less.dead {y : LV} : Less .dead y := fun _ _ _ _ v _ => .dead v
theorem Less.free {x : LV} (h : hfree x = true) : Less x x := fun _ _ _ _ _ hv => hv.hfree h

theorem snap_free {H : Hp} : ∀ (k : Nat) (x : LV), hfree x = true → (k = 0 ∨ ∀ cs, x ≠ .tup cs) → snap H k x = x := by
  intro k
  cases k with
  | zero => intro x hx _; simp [snap, hx]
  | succ k =>
    intro x hx ht
    have ht := ht.resolve_left (by omega)
    cases x <;> simp only [hfree, reduceCtorEq] at hx <;> simp only [snap]
    · simp [snL, hx]
    · simp [snL, hx]
    · exact absurd rfl (ht _)

theorem Less.agg {cs ds : List LV} (hl : cs.length = ds.length) (h : ∀ i (h1 : i < cs.length) (h2 : i < ds.length), Less cs[i] ds[i]) : Less (.agg cs) (.agg ds) := fun w per ι ι' v hv => by
  obtain ⟨vs, rfl, hvl⟩ := hv.agg_inv
  exact .agg (by rw [hl]; exact hvl.1) fun i hi2 => h i hi2 (by rw [← hl]; exact hi2) w per ι ι' _ (hvl.2 i (by rw [← hl]; exact hi2))
theorem Less.fn {f : Nat} {cs ds : List LV} (hu : isUnd cs = isUnd ds) (hl : cs.length = ds.length) (h : ∀ i (h1 : i < cs.length) (h2 : i < ds.length), Less cs[i] ds[i]) : Less (.fn f cs) (.fn f ds) := fun w per ι ι' v hv => by
  cases hv with
  | fn hn hvv => exact .fnC (by rw [hl]; exact hn) (fun i hi2 => h i hi2 (by rw [← hl]; exact hi2) w per ι ι' _ (hvv i (by rw [← hl]; exact hi2))) hu

theorem Less.pp {cs ds : List LV} (hl : cs.length ≤ ds.length) (h : ∀ i (h1 : i < cs.length) (h2 : i < ds.length), Less cs[i] ds[i]) : Less (.pp cs) (.pp ds) := fun w per ι ι' v hv => by
  obtain ⟨b, o, vs, hp, hc, hvv, rfl⟩ := hv.pp_inv
  exact .pp vs hp (fun i hi => hc i (by omega)) fun i hi => h i hi (by omega) w per [] [] _ (hvv i (by omega))

theorem snL_get {f : LV → LV} {l : List LV} : (snL f l).length = l.length ∧ ∀ i (h1 : i < (snL f l).length) (h2 : i < l.length), (snL f l)[i] = f l[i] ∨ (hfree l[i] = true ∧ (snL f l)[i] = l[i]) := by
  unfold snL
  split
  · rename_i hf
    exact ⟨rfl, fun i h1 h2 => .inr ⟨hfreeL_get hf i h2, rfl⟩⟩
  · exact ⟨by simp, fun i h1 h2 => .inl (by simp)⟩

theorem tsnap_ok (hR : R.Ok) (H : TH A) : ∀ (k : Nat) (v : TV A), Conj (tsnap R H k v).1 → Less (emb R (tsnap R H k v).2) (snap (embH R H) k (emb R v)) := by
  intro k
  induction k with
  | zero =>
    intro v _
    simp only [tsnap]
    cases hf : thfree v with
    | false => exact .dead
    | true =>
      simp only [cond_true, snap]
      rw [if_pos (thfree_emb R v hf)]
      exact .free (thfree_emb R v hf)
  | succ k ih =>
    have ihL : ∀ (cs : List (TV A)), Conj ((cs.map (tsnap R H k)).flatMap (·.1)) → (embC R ((cs.map (tsnap R H k)).map (·.2))).length = (snL (snap (embH R H) k) (embC R cs)).length ∧
        ∀ i (h1 : i < (embC R ((cs.map (tsnap R H k)).map (·.2))).length) (h2 : i < (snL (snap (embH R H) k) (embC R cs)).length), Less (embC R ((cs.map (tsnap R H k)).map (·.2)))[i] (snL (snap (embH R H) k) (embC R cs))[i] := by
      intro cs hc
      obtain ⟨g1, g2⟩ := snL_get (f := snap (embH R H) k) (l := embC R cs)
      refine ⟨by rw [g1, embC_length, embC_length]; simp, fun i h1 h2 => ?_⟩
      have hi : i < cs.length := by rw [embC_length] at h1; simpa using h1
      have hi2 : i < (embC R cs).length := by rw [embC_length]; exact hi
      have e1 : (embC R ((cs.map (tsnap R H k)).map (·.2)))[i] = emb R (tsnap R H k cs[i]).2 := by simp [embC_eq]
      have e2 : (embC R cs)[i] = emb R cs[i] := by simp [embC_eq]
      have hci := Conj.flat hc (tsnap R H k cs[i]) (List.mem_map.2 ⟨cs[i], List.getElem_mem hi, rfl⟩)
      rw [e1]
      rcases g2 i h2 hi2 with h | ⟨hf, h⟩
      · rw [h, e2]; exact ih _ hci
      · rw [h, e2]
        rw [e2] at hf
        by_cases ht : k = 0 ∨ ∀ ds, emb R cs[i] ≠ .tup ds
        · have := ih _ hci
          rwa [snap_free k _ hf ht] at this
        · -- a tuple is not shown
          have hk : ∃ j, k = j + 1 := ⟨k - 1, by omega⟩
          obtain ⟨j, rfl⟩ := hk
          have : ∃ ds, emb R cs[i] = .tup ds := by
            refine Classical.byContradiction fun hn => ht (.inr fun ds e => hn ⟨ds, e⟩)
          obtain ⟨ds, hds⟩ := this
          generalize cs[i] = v at *
          cases v <;> simp only [emb, reduceCtorEq] at hds <;> simp only [tsnap] <;> first | exact .dead | skip
          all_goals first
            | (rename_i g w; cases w <;> first | exact .dead | (cases g <;> simp [emb] at hds); done)
            | skip
    intro v hc
    cases v with
    | sla sz h o n =>
      simp only [tsnap] at hc ⊢
      split at hc
      · rename_i e xs hr
        cases hb : Nat.beq sz (R.sz e) with
        | false => simp only [cond_false]; exact .dead
        | true =>
          rw [hb] at hc
          simp only [cond_true] at hc ⊢
          obtain ⟨c1, _⟩ := hc
          have hs := Nat.eq_of_beq_eq_true hb
          subst hs
          simp only [emb, snap, row_emb R hr, embR]
          have hle : o * R.sz e + n * R.sz e ≤ (xs.flatMap (R.encL e)).length := by
            rw [fm_length (hR.len e), ← Nat.add_mul]; exact Nat.mul_le_mul_right _ c1
          rw [if_pos hle, fm_drop (hR.len e), fm_take (hR.len e), ← cut_eq]
          unfold snL
          rw [if_pos (hfreeL_flat (hR.free e) _), cut_length c1]
          exact .free rfl
      · exact .dead
    | fn f cs =>
      simp only [tsnap] at hc ⊢
      cases hb : fnB ((cs.map (tsnap R H k)).map (·.2)) cs with
      | false => simp only [cond_false]; exact .dead
      | true =>
        rw [hb] at hc
        simp only [cond_true] at hc ⊢
        simp only [emb, snap]
        exact .fn ((fnB_ok hb).trans (isUnd_snL _).symm) (ihL cs hc).1 (ihL cs hc).2
    | agg cs =>
      simp only [tsnap] at hc ⊢
      simp only [emb, snap]
      exact .agg (ihL cs hc).1 (ihL cs hc).2
    | opt b v =>
      cases v <;> simp only [tsnap] at hc ⊢ <;> first | exact .dead | skip
      all_goals
        obtain ⟨rfl, hc⟩ := hc
        simp only [emb, cond_true, snap]
        first | exact .agg (ihL _ hc).1 (ihL _ hc).2 | exact .free rfl | exact .free (by simp [hfree])
    | ptr h o =>
      simp only [tsnap] at hc ⊢
      split at hc
      · rename_i cs hr
        simp only [emb, snap, row_emb R hr, embR]
        have := ihL (cs.drop o) hc
        rw [embC_drop] at this
        exact .pp (Nat.le_of_eq this.1) this.2
      · exact .dead
    | ptrE sz h i o =>
      simp only [tsnap] at hc ⊢
      split at hc
      · rename_i e xs hr
        cases hb : Nat.beq sz (R.sz e) with
        | false => simp only [cond_false]; exact .dead
        | true =>
          rw [hb] at hc
          simp only [cond_true] at hc ⊢
          obtain ⟨c1, _⟩ := hc
          have hs := Nat.eq_of_beq_eq_true hb
          subst hs
          simp only [emb, snap, row_emb R hr, embR]
          obtain ⟨e1, e2⟩ := fm_split (hR.len e) c1
          have hsn : snL (snap (embH R H) k) ((xs.flatMap (R.encL e)).drop (i * R.sz e + o)) = (xs.flatMap (R.encL e)).drop (i * R.sz e + o) := by
            unfold snL
            rw [if_pos]
            have gen : ∀ (l : List LV), (∀ c ∈ l, hfree c = true) → hfreeL l = true := by
              intro l
              induction l with
              | nil => intro _; rfl
              | cons c r ih => intro h; simp only [hfreeL, Bool.and_eq_true]; exact ⟨h c (by simp), ih fun d hd => h d (by simp [hd])⟩
            refine gen _ fun c hc => ?_
            obtain ⟨j, hj, rfl⟩ := List.getElem_of_mem (List.mem_of_mem_drop hc)
            exact hfreeL_get (hfreeL_flat (hR.free e) xs) j hj
          rw [hsn]
          have ed : (xs.flatMap (R.encL e)).drop (i * R.sz e + o) = (R.encL e xs[i] ++ (xs.drop (i + 1)).flatMap (R.encL e)).drop o := by
            rw [e1, ← List.drop_drop, List.drop_left' e2]
          rw [ed, embC_drop, hR.ok, getD_get _ c1]
          refine .pp (by simp; omega) fun j h1 h2 => ?_
          have h1' : o + j < (R.encL e xs[i]).length := by simp at h1; omega
          rw [List.getElem_drop, List.getElem_drop, List.getElem_append_left h1']
          exact .free (hfreeL_get (hR.free e _) _ h1')
      · exact .dead
    | _ => simp only [tsnap, emb, snap]; first | exact .dead | exact .free rfl

end

/-- Arguments that say less. -/
theorem LC.args {P : Program} {f : Nat} {as bs : List LV} {Q : LV → Hp → Prop} (hl : as.length = bs.length) (h : ∀ i (h1 : i < as.length) (h2 : i < bs.length), Less as[i] bs[i]) (hc : LC P f as [] Q) : LC P f bs [] Q :=
  ⟨hc.1, fun kp per ι w vs h1 h2 h3 h4 => hc.2 kp per ι w vs h1 h2 h3 ⟨by rw [hl]; exact h4.1, fun i hi => h i hi (by rw [← hl]; exact hi) w per ι ι _ (h4.2 i (by rw [← hl]; exact hi))⟩⟩

end Go.Lite

/- Lite, part TH: what is known is forgotten, renumbered, frozen. -/
namespace Go.Lite
open Go Go.RowKit
set_option linter.unusedVariables false

/-- x says no more than y. -/
def WeakS (x y : LV) : Prop := ∀ (w : World) (per : Nat → Prop) (ι : Pl) (v : Value), VR w per ι y v → VR w per ι x v
theorem WeakS.refl (x : LV) : WeakS x x := fun _ _ _ _ h => h
theorem WeakS.dead {y : LV} : WeakS .dead y := fun _ _ _ v _ => .dead v

theorem WeakS.agg {cs ds : List LV} (hl : cs.length = ds.length) (h : ∀ i (h1 : i < cs.length) (h2 : i < ds.length), WeakS cs[i] ds[i]) : WeakS (.agg cs) (.agg ds) := fun w per ι v hv => by
  obtain ⟨vs, rfl, hvl⟩ := hv.agg_inv
  exact .agg (by rw [hl]; exact hvl.1) fun i hi2 => h i hi2 (by rw [← hl]; exact hi2) w per ι _ (hvl.2 i (by rw [← hl]; exact hi2))
theorem WeakS.tup {cs ds : List LV} (hl : cs.length = ds.length) (h : ∀ i (h1 : i < cs.length) (h2 : i < ds.length), WeakS cs[i] ds[i]) : WeakS (.tup cs) (.tup ds) := fun w per ι v hv => by
  obtain ⟨vs, rfl, hvl⟩ := hv.tup_inv
  exact .tup (by rw [hl]; exact hvl.1) fun i hi2 => h i hi2 (by rw [← hl]; exact hi2) w per ι _ (hvl.2 i (by rw [← hl]; exact hi2))
theorem WeakS.fn {f : Nat} {cs ds : List LV} (hu : isUnd cs = isUnd ds) (hl : cs.length = ds.length) (h : ∀ i (h1 : i < cs.length) (h2 : i < ds.length), WeakS cs[i] ds[i]) : WeakS (.fn f cs) (.fn f ds) := fun w per ι v hv => by
  cases hv with
  | fn hn hvv => exact .fnC (by rw [hl]; exact hn) (fun i hi2 => h i hi2 (by rw [← hl]; exact hi2) w per ι _ (hvv i (by rw [← hl]; exact hi2))) hu

theorem Wk.weak {N : Dim} {F F' : Fr} {H H' : Hp} (hl : H'.length = H.length) (hF : ∀ t, WeakS (fget F' t) (fget F t))
    (hH : ∀ (j : Nat) (cs' : List LV), H'[j]? = some (some cs') → ∃ cs, H[j]? = some (some cs) ∧ cs'.length = cs.length ∧ ∀ i (h1 : i < cs'.length) (h2 : i < cs.length), WeakS cs'[i] cs[i]) : Wk N F' H' F H := by
  intro cx a w hsr
  obtain ⟨ι, per, hst⟩ := hsr.st
  refine .of (ι := ι) (per := per) ⟨⟨by rw [hst.rep.len, hl], hst.rep.perlt, fun j cs' hj => ?_, fun j j' cs cs' b o b' o' hj hj' hi hi' hbb => ?_⟩, hst.p1, hst.p2, fun t => hF t w per ι _ (hst.fr t), hst.size, hst.defers, hst.below, hst.bs, hst.grow⟩
  · obtain ⟨cs, h1, h2, h3⟩ := hH j cs' hj
    rcases hst.rep.live j cs h1 with ⟨k1, k2⟩ | ⟨b, o, c, e, k1, k2, k3, k4, k5, k6⟩
    · subst k2; exact .inl ⟨k1, List.eq_nil_of_length_eq_zero (by simpa using h2)⟩
    · exact .inr ⟨b, o, c, e, k1, k2, k3, k4, by omega, fun i hi => h3 i hi (by omega) w per ι _ (k6 i (by omega))⟩
  · obtain ⟨d, h1, _⟩ := hH j cs hj
    obtain ⟨d', h1', _⟩ := hH j' cs' hj'
    exact hst.rep.inj j j' d d' b o b' o' h1 h1' hi hi' hbb

section
variable {A : Nat → Type} (R : Reg A)

def sgB (σ : List (Option Nat)) (j h : Nat) : Bool := match nth σ j with
  | some (some k) => Nat.beq k h
  | _ => false
theorem sgB_ok {σ : List (Option Nat)} {j h : Nat} (hb : sgB σ j h = true) : sgOf σ j = some h := by
  unfold sgB at hb
  rw [nth_eq] at hb
  unfold sgOf
  split at hb
  · rename_i k e
    rw [e, Nat.eq_of_beq_eq_true hb]
  · cases hb

mutual
/-- The new value says no more than the old one, the rows renumbered: what is asked. -/
def tfit (σ : List (Option Nat)) : TV A → TV A → Option (List Prop)
  | .dead, _ => some []
  | .und, .und => some []
  | .bool b', .bool b => some [b' = b]
  | .int k' n', .int k n => cond (kEq k' k) (some [n' = n]) none
  | .str s', .str s => some [s' = s]
  | .nilp, .nilp => some []
  | .nils, .nils => some []
  | .nilf, .nilf => some []
  | .yld l', .yld l => some [l' = l]
  | .ptr j o', .ptr h o => cond (sgB σ j h && Nat.beq o' o) (some []) none
  | .ptrE sz' j i' o', .ptrE sz h i o => cond (sgB σ j h && Nat.beq o' o && Nat.beq sz' sz) (some [i' = i]) none
  | .sl sz' j o' n', .sl sz h o n => cond (sgB σ j h && Nat.beq sz' sz) (some [o' = o, n' = n]) none
  | .sla sz' j o' n', .sla sz h o n => cond (sgB σ j h && Nat.beq sz' sz) (some [o' = o, n' = n]) none
  | .sla sz' j o' n', .sl sz h o n => cond (sgB σ j h && Nat.beq sz' sz) (some [o' * sz = o, n' = n]) none
  | .sla sz' j o' n', .nils => some [n' = 0]
  | .lst e' xs', .lst e xs => (match Nat.decEq e e' with
    | .isTrue p => some [xs' = p ▸ xs]
    | .isFalse _ => none)
  | .lst e' xs', .nils => some [xs' = []]
  | .pel cs', .pel cs => some [cs' = cs]
  | .fn f' cs', .fn f cs => cond (Nat.beq f' f && fnB cs' cs) (tfitL σ cs' cs) none
  | .agg cs', .agg cs => tfitL σ cs' cs
  | .tup cs', .tup cs => tfitL σ cs' cs
  | _, _ => none
def tfitL (σ : List (Option Nat)) : List (TV A) → List (TV A) → Option (List Prop)
  | [], [] => some []
  | c' :: r', c :: r => (match tfit σ c' c, tfitL σ r' r with
    | some a, some b => some (a ++ b)
    | _, _ => none)
  | _, _ => none
end

theorem tfitL_len {σ : List (Option Nat)} : ∀ (cs' cs : List (TV A)) (p : List Prop), tfitL σ cs' cs = some p → cs'.length = cs.length := by
  intro cs'
  induction cs' with
  | nil => intro cs p h; cases cs <;> simp [tfitL] at h; rfl
  | cons c r ih =>
    intro cs p h
    cases cs with
    | nil => simp [tfitL] at h
    | cons d r' =>
      simp only [tfitL] at h
      split at h
      · rename_i a b _ h2; simp [ih _ _ h2]
      · cases h

mutual
theorem tfit_ok {σ : List (Option Nat)} : ∀ (v' v : TV A) (p : List Prop), tfit σ v' v = some p → Conj p → FitS σ (emb R v') (emb R v)
  | .dead, v, _, _, _ => .dead
  | .und, v, p, h, hc => by cases v <;> simp only [tfit, reduceCtorEq] at h; exact .free rfl
  | .bool b', v, p, h, hc => by
    cases v <;> simp only [tfit, reduceCtorEq, Option.some.injEq] at h
    subst h; have := hc.1; subst this; exact .free rfl
  | .int k' n', v, p, h, hc => by
    cases v <;> simp only [tfit, reduceCtorEq] at h
    rename_i k n
    cases hk : kEq k' k with
    | false => rw [hk] at h; cases h
    | true =>
      rw [hk] at h
      obtain rfl := Option.some.inj h
      have := hc.1; subst this; have := kEq_eq hk; subst this; exact .free rfl
  | .str s', v, p, h, hc => by
    cases v <;> simp only [tfit, reduceCtorEq, Option.some.injEq] at h
    subst h; have := hc.1; subst this; exact .free rfl
  | .nilp, v, p, h, hc => by cases v <;> simp only [tfit, reduceCtorEq] at h; exact .free rfl
  | .nils, v, p, h, hc => by cases v <;> simp only [tfit, reduceCtorEq] at h; exact .free rfl
  | .nilf, v, p, h, hc => by cases v <;> simp only [tfit, reduceCtorEq] at h; exact .free rfl
  | .yld l', v, p, h, hc => by
    cases v <;> simp only [tfit, reduceCtorEq, Option.some.injEq] at h
    subst h; have := hc.1; subst this; exact .free rfl
  | .ptr j o', v, p, h, hc => by
    cases v <;> simp only [tfit, reduceCtorEq] at h
    rename_i k o
    cases hk : sgB σ j k && Nat.beq o' o with
    | false => rw [hk] at h; cases h
    | true =>
      simp only [Bool.and_eq_true] at hk
      have := Nat.eq_of_beq_eq_true hk.2; subst this
      exact .ptr (sgB_ok hk.1)
  | .ptrE sz' j i' o', v, p, h, hc => by
    cases v <;> simp only [tfit, reduceCtorEq] at h
    rename_i sz k i o
    cases hk : sgB σ j k && Nat.beq o' o && Nat.beq sz' sz with
    | false => rw [hk] at h; cases h
    | true =>
      rw [hk] at h
      obtain rfl := Option.some.inj h
      simp only [Bool.and_eq_true] at hk
      have := Nat.eq_of_beq_eq_true hk.1.2; subst this
      have := Nat.eq_of_beq_eq_true hk.2; subst this
      have := hc.1; subst this
      exact .ptr (sgB_ok hk.1.1)
  | .sl sz' j o' n', v, p, h, hc => by
    cases v <;> simp only [tfit, reduceCtorEq] at h
    rename_i sz k o n
    cases hk : sgB σ j k && Nat.beq sz' sz with
    | false => rw [hk] at h; cases h
    | true =>
      rw [hk] at h
      obtain rfl := Option.some.inj h
      simp only [Bool.and_eq_true] at hk
      have := Nat.eq_of_beq_eq_true hk.2; subst this
      obtain ⟨rfl, rfl, _⟩ := hc
      exact .sl (sgB_ok hk.1)
  | .sla sz' j o' n', v, p, h, hc => by
    cases v <;> simp only [tfit, reduceCtorEq] at h
    · obtain rfl := Option.some.inj h
      obtain ⟨rfl, _⟩ := hc
      exact .slnil
    · rename_i sz k o n
      cases hk : sgB σ j k && Nat.beq sz' sz with
      | false => rw [hk] at h; cases h
      | true =>
        rw [hk] at h
        obtain rfl := Option.some.inj h
        simp only [Bool.and_eq_true] at hk
        have := Nat.eq_of_beq_eq_true hk.2; subst this
        obtain ⟨rfl, rfl, _⟩ := hc
        exact .sl (sgB_ok hk.1)
    · rename_i sz k o n
      cases hk : sgB σ j k && Nat.beq sz' sz with
      | false => rw [hk] at h; cases h
      | true =>
        rw [hk] at h
        obtain rfl := Option.some.inj h
        simp only [Bool.and_eq_true] at hk
        have := Nat.eq_of_beq_eq_true hk.2; subst this
        obtain ⟨rfl, rfl, _⟩ := hc
        exact .sl (sgB_ok hk.1)
  | .lst e' xs', v, p, h, hc => by
    cases v <;> simp only [tfit, reduceCtorEq] at h
    · obtain rfl := Option.some.inj h
      obtain ⟨rfl, _⟩ := hc
      exact .psnil
    · rename_i e xs
      split at h
      · rename_i q _
        subst q
        obtain rfl := Option.some.inj h
        obtain ⟨rfl, _⟩ := hc
        exact .free rfl
      · cases h
  | .pel cs', v, p, h, hc => by
    cases v <;> simp only [tfit, reduceCtorEq, Option.some.injEq] at h
    subst h; have := hc.1; subst this; exact .free rfl
  | .fn f' cs', v, p, h, hc => by
    cases v <;> simp only [tfit, reduceCtorEq] at h
    rename_i f cs
    cases hk : Nat.beq f' f && fnB cs' cs with
    | false => rw [hk] at h; cases h
    | true =>
      rw [hk] at h
      rw [Bool.and_eq_true] at hk
      have := Nat.eq_of_beq_eq_true hk.1; subst this
      exact .fn (fnB_ok hk.2) (by rw [embC_length, embC_length]; exact tfitL_len _ _ _ h) (tfitL_ok cs' cs p h hc)
  | .agg cs', v, p, h, hc => by
    cases v <;> simp only [tfit, reduceCtorEq] at h
    rename_i cs
    exact .agg (by rw [embC_length, embC_length]; exact tfitL_len _ _ _ h) (tfitL_ok cs' cs p h hc)
  | .tup cs', v, p, h, hc => by
    cases v <;> simp only [tfit, reduceCtorEq] at h
    rename_i cs
    exact .tup (by rw [embC_length, embC_length]; exact tfitL_len _ _ _ h) (tfitL_ok cs' cs p h hc)
  | .opt g w, v, p, h, hc => by cases v <;> simp only [tfit, reduceCtorEq] at h
theorem tfitL_ok {σ : List (Option Nat)} : ∀ (cs' cs : List (TV A)) (p : List Prop), tfitL σ cs' cs = some p → Conj p → ∀ i (h1 : i < (embC R cs').length) (h2 : i < (embC R cs).length), FitS σ (embC R cs')[i] (embC R cs)[i]
  | [], cs, p, h, hc => fun i h1 => by simp [embC] at h1
  | c' :: r', [], p, h, hc => by simp [tfitL] at h
  | c' :: r', c :: r, p, h, hc => by
    simp only [tfitL] at h
    split at h
    · rename_i a b ha hb
      obtain rfl := Option.some.inj h
      obtain ⟨c1, c2⟩ := Conj.app hc
      intro i h1 h2
      cases i with
      | zero => exact tfit_ok c' c a ha c1
      | succ i =>
        simp only [embC, List.getElem_cons_succ]
        exact tfitL_ok r' r b hb c2 i (by simpa [embC] using h1) (by simpa [embC] using h2)
    · cases h
end

def trfit (σ : List (Option Nat)) : TRow A → TRow A → Option (List Prop)
  | .cells cs', .cells cs => tfitL σ cs' cs
  | .arr e' xs', .arr e xs => (match Nat.decEq e e' with
    | .isTrue p => some [xs' = p ▸ xs]
    | .isFalse _ => none)
  | .arr e' xs', .cells cs => some [xs'.flatMap (R.encL e') = embC R cs]
  | _, _ => none

theorem trfit_ok (hR : R.Ok) {σ : List (Option Nat)} {r' r : TRow A} {p : List Prop} (h : trfit R σ r' r = some p) (hc : Conj p) :
    (embR R r').length = (embR R r).length ∧ ∀ i (h1 : i < (embR R r').length) (h2 : i < (embR R r).length), FitS σ (embR R r')[i] (embR R r)[i] := by
  cases r' with
  | cells cs' =>
    cases r with
    | cells cs =>
      simp only [trfit] at h
      exact ⟨by simp only [embR, embC_length]; exact tfitL_len _ _ _ h, tfitL_ok R cs' cs p h hc⟩
    | arr e xs => cases h
  | arr e' xs' =>
    have fr : ∀ i (h1 : i < (embR R (.arr e' xs')).length), hfree (embR R (.arr e' xs'))[i] = true := fun i h1 => hfreeL_get (hfreeL_flat (hR.free e') xs') i h1
    cases r with
    | cells cs =>
      obtain rfl := Option.some.inj h
      obtain ⟨c1, _⟩ := hc
      refine ⟨by simp only [embR]; rw [c1], fun i h1 h2 => ?_⟩
      have e1 : (embR R (TRow.cells cs))[i] = (embR R (.arr e' xs'))[i] := by simp only [embR, c1]
      rw [e1]
      exact .free (fr i h1)
    | arr e xs =>
      simp only [trfit] at h
      split at h
      · rename_i q _
        subst q
        obtain rfl := Option.some.inj h
        obtain ⟨c1, _⟩ := hc
        simp only at c1
        subst c1
        exact ⟨rfl, fun i h1 h2 => .free (fr i h1)⟩
      · cases h

def fitF (σ : List (Option Nat)) (F : TF A) : TF A → Option (List Prop)
  | [] => some []
  | (t, v) :: r => (match tfit σ v (tget F t), fitF σ F r with
    | some a, some b => some (a ++ b)
    | _, _ => none)

theorem fitF_ok {σ : List (Option Nat)} {F : TF A} : ∀ (F' : TF A) (p : List Prop), fitF σ F F' = some p → Conj p → ∀ t, FitS σ (fget (embF R F') t) (fget (embF R F) t) := by
  intro F'
  induction F' with
  | nil => intro p _ _ t; exact .dead
  | cons q r ih =>
    intro p h hc t
    obtain ⟨s, v⟩ := q
    simp only [fitF] at h
    split at h
    · rename_i a b ha hb
      obtain rfl := Option.some.inj h
      obtain ⟨c1, c2⟩ := Conj.app hc
      rw [fget_embF, fget_embF]
      simp only [tget]
      cases hst : Nat.beq s t with
      | true =>
        have := Nat.eq_of_beq_eq_true hst; subst this
        exact tfit_ok R v _ a ha c1
      | false =>
        have := ih b hb c2 t
        rwa [fget_embF, fget_embF] at this
    · cases h

def fitH (σ : List (Option Nat)) (H : TH A) : Nat → TH A → Option (List Prop)
  | _, [] => some []
  | j, none :: r => fitH σ H (j + 1) r
  | j, some x :: r => (match (match nth σ j with
      | some (some h) => (match trow H h with | some y => trfit R σ x y | none => none)
      | some none => (match x with | .arr e xs => some [xs = []] | .cells _ => none)
      | none => none), fitH σ H (j + 1) r with
    | some a, some b => some (a ++ b)
    | _, _ => none)

theorem fitH_ok (hR : R.Ok) {σ : List (Option Nat)} {H : TH A} : ∀ (H' : TH A) (k : Nat) (p : List Prop), fitH R σ H k H' = some p → Conj p → ∀ (j : Nat) (cs' : List LV), (embH R H')[j]? = some (some cs') →
    (sgOf σ (k + j) = none ∧ cs' = []) ∨ ∃ h cs, sgOf σ (k + j) = some h ∧ (embH R H)[h]? = some (some cs) ∧ cs'.length ≤ cs.length ∧ ∀ i (h1 : i < cs'.length) (h2 : i < cs.length), FitS σ cs'[i] cs[i] := by
  intro H'
  induction H' with
  | nil => intro k p _ _ j cs' h; simp [embH] at h
  | cons x r ih =>
    intro k p h hc j cs' hj
    cases x with
    | none =>
      simp only [fitH] at h
      cases j with
      | zero => simp [embH, embO] at hj
      | succ j =>
        have := ih (k + 1) p h hc j cs' (by simpa [embH] using hj)
        rwa [show k + 1 + j = k + (j + 1) by omega] at this
    | some x =>
      simp only [fitH] at h
      split at h
      · rename_i a b ha hb
        obtain rfl := Option.some.inj h
        obtain ⟨c1, c2⟩ := Conj.app hc
        cases j with
        | succ j =>
          have := ih (k + 1) b hb c2 j cs' (by simpa [embH] using hj)
          rwa [show k + 1 + j = k + (j + 1) by omega] at this
        | zero =>
          simp only [embH, embO, List.getElem?_cons_zero, Option.some.injEq] at hj
          subst hj
          rw [Nat.add_zero]
          split at ha
          · rename_i h' hs
            rw [nth_eq] at hs
            split at ha
            · rename_i y hy
              obtain ⟨t1, t2⟩ := trfit_ok R hR ha c1
              refine .inr ⟨h', embR R y, by simp [sgOf, hs], ?_, by omega, t2⟩
              have := row_emb R hy
              unfold row at this
              split at this
              · rename_i z hz; rw [hz]; exact congrArg some this
              · cases this
            · cases ha
          · rename_i hs
            rw [nth_eq] at hs
            split at ha
            · obtain rfl := Option.some.inj ha
              obtain ⟨c3, _⟩ := c1
              subst c3
              exact .inl ⟨by simp [sgOf, hs], rfl⟩
            · cases ha
          · cases ha
      · cases h

def memO (h : Nat) : List (Option Nat) → Bool
  | [] => false
  | none :: r => memO h r
  | some k :: r => Nat.beq k h || memO h r
def sgNd : List (Option Nat) → Bool
  | [] => true
  | none :: r => sgNd r
  | some h :: r => !(memO h r) && sgNd r

theorem memO_get {h : Nat} : ∀ {σ : List (Option Nat)} {j : Nat}, σ[j]? = some (some h) → memO h σ = true := by
  intro σ
  induction σ with
  | nil => intro j hj; simp at hj
  | cons x r ih =>
    intro j hj
    cases j with
    | zero => simp at hj; subst hj; simp [memO]
    | succ j =>
      have := ih (j := j) (by simpa using hj)
      cases x <;> simp [memO, this]

theorem sgNd_ok : ∀ {σ : List (Option Nat)}, sgNd σ = true → ∀ (j j' h : Nat), σ[j]? = some (some h) → σ[j']? = some (some h) → j = j' := by
  intro σ
  induction σ with
  | nil => intro _ j j' h hj; simp at hj
  | cons x r ih =>
    intro hn j j' h hj hj'
    have hr : sgNd r = true := by cases x <;> simp [sgNd] at hn <;> first | exact hn | exact hn.2
    cases j with
    | zero =>
      cases j' with
      | zero => rfl
      | succ j' =>
        simp at hj hj'
        subst hj
        simp [sgNd] at hn
        rw [memO_get hj'] at hn
        simp at hn
    | succ j =>
      cases j' with
      | zero =>
        simp at hj hj'
        subst hj'
        simp [sgNd] at hn
        rw [memO_get hj] at hn
        simp at hn
      | succ j' => rw [ih hr j j' h (by simpa using hj) (by simpa using hj')]

def keepB (σ : List (Option Nat)) : Nat → Bool
  | 0 => true
  | m + 1 => sgB σ m m && keepB σ m
theorem keepB_ok {σ : List (Option Nat)} : ∀ (m : Nat), keepB σ m = true → ∀ j, j < m → sgOf σ j = some j := by
  intro m
  induction m with
  | zero => intro _ j hj; omega
  | succ m ih =>
    intro h j hj
    simp only [keepB, Bool.and_eq_true] at h
    rcases Nat.lt_or_ge j m with h1 | h1
    · exact ih h.2 j h1
    · have : j = m := by omega
      subst this; exact sgB_ok h.1

/-- From what is known to less, the rows renumbered: what is asked. -/
def tcanon (m : Nat) (σ : List (Option Nat)) (F' : TF A) (H' : TH A) (F : TF A) (H : TH A) : Option (List Prop) :=
  cond (Nat.beq σ.length H'.length && sgNd σ && keepB σ m) (match fitF σ F F', fitH R σ H 0 H' with
    | some a, some b => some (a ++ b)
    | _, _ => none) none

theorem tcanon_ok (hR : R.Ok) {N : Dim} {σ : List (Option Nat)} {F F' : TF A} {H H' : TH A} {p : List Prop} (h : tcanon R N.m σ F' H' F H = some p) (hc : Conj p) : Wk N (embF R F') (embH R H') (embF R F) (embH R H) := by
  unfold tcanon at h
  cases hb : Nat.beq σ.length H'.length && sgNd σ && keepB σ N.m with
  | false => rw [hb] at h; cases h
  | true =>
    rw [hb] at h
    simp only [cond_true] at h
    simp only [Bool.and_eq_true] at hb
    split at h
    · rename_i a b ha hb2
      obtain rfl := Option.some.inj h
      obtain ⟨c1, c2⟩ := Conj.app hc
      refine .canon σ (by rw [embH_length]; exact Nat.eq_of_beq_eq_true hb.1.1) (fun j j' h hj hj' => ?_) (keepB_ok _ hb.2) (fitF_ok R F' a ha c1) (fun j cs' hj => ?_)
      · have sg : ∀ j, sgOf σ j = some h → σ[j]? = some (some h) := by
          intro j hj
          unfold sgOf at hj
          split at hj
          · rename_i x hx; rw [hx, hj]
          · cases hj
        exact sgNd_ok hb.1.2 j j' h (sg j hj) (sg j' hj')
      · have := fitH_ok R hR H' 0 b hb2 c2 j cs' hj
        rwa [Nat.zero_add] at this
    · cases h

/-! ### Freezing -/
def tfz (r e : Nat) (xs : List (A e)) : Nat → TV A → List Prop × TV A
  | 0, _ => ([], .dead)
  | k + 1, v => match v with
    | .sla sz h o n => cond (Nat.beq h r) (cond (Nat.beq sz (R.sz e)) ([o + n ≤ xs.length], .lst e (cut xs o n)) ([], .dead)) ([], .sla sz h o n)
    | .ptrE sz h i o => cond (Nat.beq h r) ([], .dead) ([], .ptrE sz h i o)
    | .ptr h o => cond (Nat.beq h r) ([], .dead) ([], .ptr h o)
    | .sl sz h o n => cond (Nat.beq h r) ([], .dead) ([], .sl sz h o n)
    | .fn f cs => cond (fnB ((cs.map (tfz r e xs k)).map (·.2)) cs) ((cs.map (tfz r e xs k)).flatMap (·.1), .fn f ((cs.map (tfz r e xs k)).map (·.2))) ([], .dead)
    | .agg cs => ((cs.map (tfz r e xs k)).flatMap (·.1), .agg ((cs.map (tfz r e xs k)).map (·.2)))
    | .tup cs => ((cs.map (tfz r e xs k)).flatMap (·.1), .tup ((cs.map (tfz r e xs k)).map (·.2)))
    | .opt _ _ => ([], .dead)
    | v => ([], v)

theorem beq_ne {a b : Nat} (h : Nat.beq a b = false) : a ≠ b := fun e => by subst e; simp at h

theorem tfz_ok (hR : R.Ok) {r e : Nat} {xs : List (A e)} : ∀ (k : Nat) (v : TV A), Conj (tfz R r e xs k v).1 → WeakS (emb R (tfz R r e xs k v).2) (fz r (xs.flatMap (R.encL e)) (emb R v)) := by
  intro k
  induction k with
  | zero => intro v _; exact .dead
  | succ k ih =>
    have ihL : ∀ (cs : List (TV A)), Conj ((cs.map (tfz R r e xs k)).flatMap (·.1)) → (embC R ((cs.map (tfz R r e xs k)).map (·.2))).length = (fzL r (xs.flatMap (R.encL e)) (embC R cs)).length ∧
        ∀ i (h1 : i < (embC R ((cs.map (tfz R r e xs k)).map (·.2))).length) (h2 : i < (fzL r (xs.flatMap (R.encL e)) (embC R cs)).length), WeakS (embC R ((cs.map (tfz R r e xs k)).map (·.2)))[i] (fzL r (xs.flatMap (R.encL e)) (embC R cs))[i] := by
      intro cs hc
      refine ⟨by rw [fzL_eq, List.length_map, embC_length, embC_length]; simp, fun i h1 h2 => ?_⟩
      have hi : i < cs.length := by rw [embC_length] at h1; simpa using h1
      have hci := Conj.flat hc (tfz R r e xs k cs[i]) (List.mem_map.2 ⟨cs[i], List.getElem_mem hi, rfl⟩)
      have := ih _ hci
      simp only [fzL_eq, embC_eq, List.getElem_map] at *
      exact this
    intro v hc
    cases v with
    | sla sz h o n =>
      simp only [tfz] at hc ⊢
      cases hb : Nat.beq h r with
      | false =>
        simp only [cond_false, emb, fz]
        rw [if_neg (beq_ne hb)]
        exact .refl _
      | true =>
        rw [hb] at hc
        simp only [cond_true] at hc ⊢
        cases hs : Nat.beq sz (R.sz e) with
        | false => exact .dead
        | true =>
          rw [hs] at hc
          simp only [cond_true] at hc ⊢
          obtain ⟨c1, _⟩ := hc
          have := Nat.eq_of_beq_eq_true hs; subst this
          have hle : o * R.sz e + n * R.sz e ≤ (xs.flatMap (R.encL e)).length := by
            rw [fm_length (hR.len e), ← Nat.add_mul]; exact Nat.mul_le_mul_right _ c1
          simp only [emb, fz]
          rw [if_pos (Nat.eq_of_beq_eq_true hb), if_pos hle, fm_drop (hR.len e), fm_take (hR.len e), ← cut_eq, cut_length c1]
          exact .refl _
    | ptrE sz h i o =>
      simp only [tfz]
      cases hb : Nat.beq h r with
      | false => simp only [cond_false, emb, fz]; rw [if_neg (beq_ne hb)]; exact .refl _
      | true => exact .dead
    | ptr h o =>
      simp only [tfz]
      cases hb : Nat.beq h r with
      | false => simp only [cond_false, emb, fz]; rw [if_neg (beq_ne hb)]; exact .refl _
      | true => exact .dead
    | sl sz h o n =>
      simp only [tfz]
      cases hb : Nat.beq h r with
      | false => simp only [cond_false, emb, fz]; rw [if_neg (beq_ne hb)]; exact .refl _
      | true => exact .dead
    | fn f cs =>
      simp only [tfz] at hc ⊢
      cases hb : fnB ((cs.map (tfz R r e xs k)).map (·.2)) cs with
      | false => simp only [cond_false]; exact .dead
      | true =>
        rw [hb] at hc
        simp only [cond_true] at hc ⊢
        simp only [emb, fz]
        exact .fn (by rw [fnB_ok hb, fzL_eq]; exact (isUnd_map fz_und _).symm) (ihL cs hc).1 (ihL cs hc).2
    | agg cs => simp only [tfz] at hc ⊢; simp only [emb, fz]; exact .agg (ihL cs hc).1 (ihL cs hc).2
    | tup cs => simp only [tfz] at hc ⊢; simp only [emb, fz]; exact .tup (ihL cs hc).1 (ihL cs hc).2
    | opt g v => exact .dead
    | _ => simp only [tfz, emb, fz]; exact .refl _

def tfzF (r e : Nat) (xs : List (A e)) : TF A → List Prop × TF A
  | [] => ([], [])
  | (t, v) :: F => (match tfz R r e xs 3 v, tfzF r e xs F with | (p, v'), (q, F') => (p ++ q, (t, v') :: F'))
def tfzH (r e : Nat) (xs : List (A e)) : Nat → TH A → List Prop × TH A
  | _, [] => ([], [])
  | j, none :: H => (match tfzH r e xs (j + 1) H with | (q, H') => (q, none :: H'))
  | j, some (.arr e' ys) :: H => (match tfzH r e xs (j + 1) H with | (q, H') => (q, cond (Nat.beq j r) none (some (.arr e' ys)) :: H'))
  | j, some (.cells cs) :: H => (match tfzH r e xs (j + 1) H with | (q, H') => ((cs.map (tfz R r e xs 3)).flatMap (·.1) ++ q, some (.cells ((cs.map (tfz R r e xs 3)).map (·.2))) :: H'))

theorem tfzF_ok (hR : R.Ok) {r e : Nat} {xs : List (A e)} : ∀ (F : TF A), Conj (tfzF R r e xs F).1 → ∀ t, WeakS (fget (embF R (tfzF R r e xs F).2) t) (fget (fzF r (xs.flatMap (R.encL e)) (embF R F)) t) := by
  intro F
  induction F with
  | nil => intro _ t; exact .dead
  | cons q F ih =>
    intro hc t
    obtain ⟨s, v⟩ := q
    simp only [tfzF] at hc ⊢
    obtain ⟨c1, c2⟩ := Conj.app hc
    simp only [embF, fzF, fget]
    cases Nat.beq s t with
    | true => exact tfz_ok R hR 3 v c1
    | false => exact ih c2 t

theorem tfzH_len {r e : Nat} {xs : List (A e)} : ∀ (H : TH A) (k : Nat), (tfzH R r e xs k H).2.length = H.length := by
  intro H
  induction H with
  | nil => intro k; rfl
  | cons x H ih =>
    intro k
    cases x with
    | none => simp [tfzH, ih]
    | some x => cases x <;> simp [tfzH, ih]

theorem tfzH_ok (hR : R.Ok) {r e : Nat} {xs : List (A e)} : ∀ (H : TH A) (k : Nat), Conj (tfzH R r e xs k H).1 → (∀ cs : List (TV A), k ≤ r → H[r - k]? ≠ some (some (TRow.cells cs))) →
    ∀ (j : Nat) (cs' : List LV), (embH R (tfzH R r e xs k H).2)[j]? = some (some cs') → k + j ≠ r ∧ ∃ cs, (embH R H)[j]? = some (some cs) ∧ cs'.length = (fzL r (xs.flatMap (R.encL e)) cs).length ∧
      ∀ i (h1 : i < cs'.length) (h2 : i < (fzL r (xs.flatMap (R.encL e)) cs).length), WeakS cs'[i] (fzL r (xs.flatMap (R.encL e)) cs)[i] := by
  intro H
  induction H with
  | nil => intro k _ _ j cs' h; simp [tfzH, embH] at h
  | cons x H ih =>
    intro k hc hnc j cs' hj
    have next : ∀ {j}, Conj (tfzH R r e xs (k + 1) H).1 → (embH R (tfzH R r e xs (k + 1) H).2)[j]? = some (some cs') → k + (j + 1) ≠ r ∧ ∃ cs, (embH R (x :: H))[j + 1]? = some (some cs) ∧ cs'.length = (fzL r (xs.flatMap (R.encL e)) cs).length ∧
        ∀ i (h1 : i < cs'.length) (h2 : i < (fzL r (xs.flatMap (R.encL e)) cs).length), WeakS cs'[i] (fzL r (xs.flatMap (R.encL e)) cs)[i] := by
      intro j hc hj
      obtain ⟨h1, cs, h2, h3⟩ := ih (k + 1) hc (fun cs hk => by
        have := hnc cs (by omega)
        rwa [show r - k = (r - (k + 1)) + 1 by omega, List.getElem?_cons_succ] at this) j cs' hj
      exact ⟨by omega, cs, by simpa [embH] using h2, h3⟩
    cases x with
    | none =>
      simp only [tfzH] at hc hj
      cases j with
      | zero => simp [embH, embO] at hj
      | succ j => exact next hc (by simpa [embH] using hj)
    | some x =>
      cases x with
      | arr e' ys =>
        simp only [tfzH] at hc hj
        cases j with
        | succ j => exact next hc (by simpa [embH] using hj)
        | zero =>
          simp only [embH, List.getElem?_cons_zero, Option.some.injEq] at hj
          cases hb : Nat.beq k r with
          | true => rw [hb] at hj; simp [embO] at hj
          | false =>
            rw [hb] at hj
            simp only [cond_false, embO, Option.some.injEq, embR] at hj
            subst hj
            refine ⟨by have := beq_ne hb; omega, ys.flatMap (R.encL e'), by simp [embH, embO, embR], ?_⟩
            have fr := hfreeL_flat (hR.free e') ys
            have : fzL r (xs.flatMap (R.encL e)) (ys.flatMap (R.encL e')) = ys.flatMap (R.encL e') := by
              rw [fzL_eq]
              have key : ∀ (n : Nat) (x : LV), SizeOf.sizeOf x < n → hfree x = true → fz r (xs.flatMap (R.encL e)) x = x := by
                intro n
                induction n with
                | zero => intro x h; omega
                | succ n ih =>
                  intro x hs hx
                  have keyL : ∀ (cs : List LV), SizeOf.sizeOf cs < n → hfreeL cs = true → fzL r (xs.flatMap (R.encL e)) cs = cs := by
                    intro cs hcs hf
                    rw [fzL_eq]
                    have : ∀ c ∈ cs, fz r (xs.flatMap (R.encL e)) c = c := fun c hc => by
                      obtain ⟨i, hi, rfl⟩ := List.getElem_of_mem hc
                      have := List.sizeOf_lt_of_mem hc
                      exact ih _ (by omega) (hfreeL_get hf i hi)
                    rw [List.map_congr_left this]; simp
                  cases x <;> simp only [hfree, reduceCtorEq] at hx <;> simp only [fz]
                  · rw [keyL _ (by simp at hs; omega) hx]
                  · rw [keyL _ (by simp at hs; omega) hx]
                  · rw [keyL _ (by simp at hs; omega) hx]
              have : ∀ c ∈ ys.flatMap (R.encL e'), fz r (xs.flatMap (R.encL e)) c = c := fun c hc => by
                obtain ⟨i, hi, rfl⟩ := List.getElem_of_mem hc
                exact key _ _ (Nat.lt_succ_self _) (hfreeL_get fr i hi)
              rw [List.map_congr_left this]; simp
            exact ⟨by rw [this], fun i h1 h2 => by simp only [this]; exact .refl _⟩
      | cells cs =>
        simp only [tfzH] at hc hj
        obtain ⟨c1, c2⟩ := Conj.app hc
        cases j with
        | succ j => exact next c2 (by simpa [embH] using hj)
        | zero =>
          simp only [embH, embO, embR, List.getElem?_cons_zero, Option.some.injEq] at hj
          subst hj
          refine ⟨fun e => ?_, embC R cs, by simp [embH, embO, embR], by rw [fzL_eq, List.length_map, embC_length, embC_length]; simp, fun i h1 h2 => ?_⟩
          · have := hnc cs (by omega)
            rw [show r - k = 0 by omega] at this
            simp at this
          · have hi : i < cs.length := by rw [embC_length] at h1; simpa using h1
            have hci := Conj.flat c1 (tfz R r e xs 3 cs[i]) (List.mem_map.2 ⟨cs[i], List.getElem_mem hi, rfl⟩)
            have := tfz_ok R hR 3 _ hci
            simp only [fzL_eq, embC_eq, List.getElem_map] at *
            exact this

/-- A row that nobody writes any more becomes plain. -/
theorem tfreeze_ok (hR : R.Ok) {N : Dim} {F : TF A} {H : TH A} {r e : Nat} {xs : List (A e)} (hm : Nat.ble N.m r = true) (hr : trow H r = some (.arr e xs)) (hcF : Conj (tfzF R r e xs F).1) (hcH : Conj (tfzH R r e xs 0 H).1) :
    Wk N (embF R (tfzF R r e xs F).2) (embH R (tfzH R r e xs 0 H).2) (embF R F) (embH R H) := by
  have hrow : (embH R H)[r]? = some (some (xs.flatMap (R.encL e))) := by
    have := row_emb R hr
    unfold row at this
    split at this
    · rename_i z hz; rw [hz]; exact congrArg some this
    · cases this
  have hrr : H[r]? = some (some (.arr e xs)) := by
    unfold trow at hr
    rw [nth_eq] at hr
    split at hr
    · rename_i z hz; rw [hz]; exact congrArg some hr
    · cases hr
  refine .trans (.weak ?_ (tfzF_ok R hR F hcF) (fun j cs' hj => ?_)) (.freeze (Nat.le_of_ble_eq_true hm) hrow (hfreeL_flat (hR.free e) xs))
  · rw [embH_length, tfzH_len, List.length_set, List.length_map, embH_length]
  · obtain ⟨h1, cs, h2, h3, h4⟩ := tfzH_ok R hR H 0 hcH (fun cs _ => by rw [Nat.sub_zero, hrr]; simp) j cs' hj
    refine ⟨_, ?_, h3, h4⟩
    rw [List.getElem?_set_ne (by omega), List.getElem?_map, h2]
    rfl

end
end Go.Lite
set_option linter.unusedVariables false
set_option linter.unusedSimpArgs false

/- Lite, part TI: code walked with typed values; contracts; calls; regions that draw their order. -/
namespace Go.Lite
open Go Go.RowKit
set_option linter.unusedVariables false

/-- What an equation of types and the registry of elements give. -/
structure Env (A : Nat → Type) (R : Reg A) (P : Program) (τ : TT) (fl : Nat → Bool) : Prop where
  ok : R.Ok
  τ : τ = ttOf P
  fl : ∀ e, fl e = true → ∀ a, psfreeL (R.encL e a) = true
  mixed : P.follows .mixedOrders = true

section
variable {A : Nat → Type} {R : Reg A} {P : Program} {N : Dim} {τ : TT} {fl : Nat → Bool}

abbrev TPost (A : Nat → Type) := Exit → TF A → TH A → Prop

def qEmb (R : Reg A) (Q : TPost A) : LPost := fun e F H => ∃ G X, Q e G X ∧ F = embF R G ∧ H = embH R X

/-- What is to be shown of a piece of code. -/
def Tw (R : Reg A) (P : Program) (N : Dim) (s : SC) (Q : TPost A) (F : TF A) (H : TH A) : Prop := Lw P N s (qEmb R Q) (embF R F) (embH R H)

/-- F', H' says no more than F, H. -/
def TWk (R : Reg A) (N : Dim) (F' : TF A) (H' : TH A) (F : TF A) (H : TH A) : Prop := Wk N (embF R F') (embH R H') (embF R F) (embH R H)

theorem TWk.canon (E : Env A R P τ fl) {σ : List (Option Nat)} {F F' : TF A} {H H' : TH A} {p : List Prop} (h : tcanon R N.m σ F' H' F H = some p) (hc : Conj p) : TWk R N F' H' F H := tcanon_ok R E.ok h hc

def tseqQ (K : TF A → TH A → Prop) (Q : TPost A) : TPost A
  | .normal, F, H => K F H
  | e, F, H => Q e F H
def tblockQ (id : Nat) (Q : TPost A) : TPost A
  | .exit id', F, H => cond (Nat.beq id' id) (Q .normal F H) (Q (.exit id') F H)
  | e, F, H => Q e F H
def tscopeQ (Q : TPost A) : TPost A
  | .goto _, _, _ => False
  | e, F, H => Q e F H

theorem Tw.mono {s : SC} {Q Q' : TPost A} {F : TF A} {H : TH A} (h : Tw R P N s Q F H) (hq : ∀ e F H, Q e F H → Q' e F H) : Tw R P N s Q' F H :=
  Lw.mono h fun e F H ⟨G, X, q, e1, e2⟩ => ⟨G, X, hq _ _ _ q, e1, e2⟩
theorem Tw.weaken {s : SC} {Q : TPost A} {F F' : TF A} {H H' : TH A} (hw : TWk R N F' H' F H) (h : Tw R P N s Q F' H') : Tw R P N s Q F H := Lw.weaken hw h
theorem TOps.weaken {l : List SO} {Q : TF A → TH A → Prop} {F F' : TF A} {H H' : TH A} (hw : TWk R N F' H' F H) (h : TOps R P N l Q F' H') : TOps R P N l Q F H := OpsW.weaken hw h

theorem Tw.skip {Q : TPost A} {F : TF A} {H : TH A} (h : Q .normal F H) : Tw R P N .skip Q F H := Lw.skip ⟨F, H, h, rfl, rfl⟩
theorem Tw.exit {id : Nat} {Q : TPost A} {F : TF A} {H : TH A} (h : Q (.exit id) F H) : Tw R P N (.exit id) Q F H := Lw.exit ⟨F, H, h, rfl, rfl⟩
theorem Tw.ret {Q : TPost A} {F : TF A} {H : TH A} (h : Q .ret F H) : Tw R P N .ret Q F H := Lw.ret ⟨F, H, h, rfl, rfl⟩

theorem Tw.seq {x y : SC} {Q : TPost A} {F : TF A} {H : TH A} (h : Tw R P N x (tseqQ (fun F H => Tw R P N y Q F H) Q) F H) : Tw R P N (.seq x y) Q F H := by
  refine Lw.seq (Lw.mono h fun e F H ⟨G, X, q, e1, e2⟩ => ?_)
  cases e with
  | normal => subst e1; subst e2; exact q
  | _ => exact ⟨G, X, q, e1, e2⟩

theorem Tw.block {id : Nat} {x : SC} {Q : TPost A} {F : TF A} {H : TH A} (h : Tw R P N x (tblockQ id Q) F H) : Tw R P N (.block id x) Q F H := by
  refine Lw.block (Lw.mono h fun e F H ⟨G, X, q, e1, e2⟩ => ?_)
  cases e with
  | exit id' =>
    simp only [tblockQ] at q
    simp only [blockQ]
    cases hb : Nat.beq id' id with
    | true => rw [hb] at q; rw [if_pos (Nat.eq_of_beq_eq_true hb)]; exact ⟨G, X, q, e1, e2⟩
    | false => rw [hb] at q; rw [if_neg (beq_ne hb)]; exact ⟨G, X, q, e1, e2⟩
  | _ => exact ⟨G, X, q, e1, e2⟩

theorem Tw.scope {x : SC} {Q : TPost A} {F : TF A} {H : TH A} (h : Tw R P N x (tscopeQ Q) F H) : Tw R P N (.scope x) Q F H := by
  refine Lw.scope (Lw.mono h fun e F H ⟨G, X, q, e1, e2⟩ => ?_)
  cases e <;> first | exact q.elim | exact ⟨G, X, q, e1, e2⟩

theorem Tw.cond {c : Operand} {x y : SC} {t : Bool} {Q : TPost A} {F : TF A} {H : TH A} (hc : tO F c = .bool t) (h1 : t = true → Tw R P N x Q F H) (h2 : t = false → Tw R P N y Q F H) : Tw R P N (.cond c x y) Q F H :=
  Lw.cond (by rw [evalO_emb R, hc]; rfl) h1 h2

theorem Tw.reg {l : List SO} {Q : TPost A} {F : TF A} {H : TH A} (h : TOps R P N l (fun F H => Q .normal F H) F H) : Tw R P N (.reg l) Q F H := Lw.ops h

/-- A piece, then what is known behind it, then the rest. -/
theorem Tw.cut {x y : SC} {Q : TPost A} {F : TF A} {H : TH A} {α : Sort _} (I : α → Prop) (Fi : α → TF A) (Hi : α → TH A) (h : Tw R P N x (tseqQ (fun F H => ∃ i, I i ∧ TWk R N (Fi i) (Hi i) F H) Q) F H)
    (k : ∀ i, I i → Tw R P N y Q (Fi i) (Hi i)) : Tw R P N (.seq x y) Q F H := by
  refine .seq (h.mono fun e F' H' hq => ?_)
  cases e with
  | normal =>
    obtain ⟨i, hi, hw⟩ := hq
    exact (k i hi).weaken hw
  | _ => exact hq

/-- A loop: at the head of each round the state is one of a family of states; each round that goes on lowers the number. -/
theorem Tw.loop {x : SC} {Q : TPost A} {F : TF A} {H : TH A} {α : Sort _} (I : α → Prop) (m : α → Nat) (Fi : α → TF A) (Hi : α → TH A) (h0 : ∃ i, I i ∧ TWk R N (Fi i) (Hi i) F H)
    (round : ∀ i, I i → Tw R P N x (tseqQ (fun F' H' => ∃ j, I j ∧ m j < m i ∧ TWk R N (Fi j) (Hi j) F' H') Q) (Fi i) (Hi i)) : Tw R P N (.loop x) Q F H := by
  refine Lw.loop I m (fun i => embF R (Fi i)) (fun i => embH R (Hi i)) h0 fun i hi => Lw.mono (round i hi) fun e F' H' ⟨G, X, q, e1, e2⟩ => ?_
  cases e with
  | normal =>
    subst e1; subst e2
    exact q
  | _ => exact ⟨G, X, q, e1, e2⟩

/-- The slots that are kept. -/
def keepF (F : TF A) : List Nat → TF A
  | [] => []
  | t :: r => (t, tget F t) :: keepF F r

/-- The same, the slots in kp as they are. -/
theorem Tw.loopK {x : SC} {Q : TPost A} {F : TF A} {H : TH A} {α : Sort _} (kp : List Nat) (I : α → Prop) (m : α → Nat) (G : α → TF A) (Hi : α → TH A) (h0 : ∃ i, I i ∧ TWk R N (G i ++ keepF F kp) (Hi i) F H)
    (round : ∀ i, I i → Tw R P N x (tseqQ (fun F' H' => ∃ j, I j ∧ m j < m i ∧ TWk R N (G j ++ keepF F kp) (Hi j) F' H') Q) (G i ++ keepF F kp) (Hi i)) : Tw R P N (.loop x) Q F H :=
  .loop I m _ Hi h0 round
theorem Tw.cutK {x y : SC} {Q : TPost A} {F : TF A} {H : TH A} {α : Sort _} (kp : List Nat) (I : α → Prop) (G : α → TF A) (Hi : α → TH A) (h : Tw R P N x (tseqQ (fun F' H' => ∃ i, I i ∧ TWk R N (G i ++ keepF F kp) (Hi i) F' H') Q) F H)
    (k : ∀ i, I i → Tw R P N y Q (G i ++ keepF F kp) (Hi i)) : Tw R P N (.seq x y) Q F H :=
  .cut I _ Hi h k

theorem TWk.freeze (E : Env A R P τ fl) {F : TF A} {H : TH A} (r : Nat) {e : Nat} {xs : List (A e)} (hm : Nat.ble N.m r = true) (hr : trow H r = some (.arr e xs)) {p q : List Prop} {F' : TF A} {H' : TH A} (hF : tfzF R r e xs F = (p, F')) (hH : tfzH R r e xs 0 H = (q, H'))
    (hcF : Conj p) (hcH : Conj q) : TWk R N F' H' F H := by
  have := tfreeze_ok R E.ok (F := F) (N := N) hm hr (by rw [hF]; exact hcF) (by rw [hH]; exact hcH)
  rw [hF, hH] at this
  exact this

/-! ### Contracts -/
def TC (R : Reg A) (P : Program) (f : Nat) (args : List (TV A)) (H : TH A) (Q : TV A → TH A → Prop) : Prop :=
  LC P f (embC R args) (embH R H) fun x G => ∃ v X, Q v X ∧ x = emb R v ∧ G = embH R X

theorem TC.mono {f : Nat} {args : List (TV A)} {H : TH A} {Q Q' : TV A → TH A → Prop} (h : TC R P f args H Q) (hq : ∀ v X, Q v X → Q' v X) : TC R P f args H Q' :=
  LC.mono h fun x G ⟨v, X, q, e⟩ => ⟨v, X, hq _ _ q, e⟩

def tframe : Nat → List (TV A) → TF A
  | _, [] => []
  | k, x :: r => (k, x) :: tframe (k + 1) r
theorem tframe_emb : ∀ (l : List (TV A)) (k : Nat), embF R (tframe k l) = frameOf k (embC R l) := by
  intro l
  induction l with
  | nil => intro k; rfl
  | cons x r ih => intro k; simp only [tframe, embF, embC, frameOf, ih]

def tresL (R : Reg A) (τ : TT) (F : TF A) (H : TH A) : List ResultVar → Option (List (TV A))
  | [] => some []
  | .tmp t :: r => (match tresL R τ F H r with | some l => some (tget F t :: l) | none => none)
  | .cell a t :: r => (match τ t, tget F a with
    | some ti, .ptr h o => (match trow H h with
      | some (.cells cs) => (match tpart ti.agg ti.size cs o, tresL R τ F H r with | some x, some l => some (x :: l) | _, _ => none)
      | _ => none)
    | _, _ => none)

theorem tresL_ok {F : TF A} {H : TH A} : ∀ (l : List ResultVar) (vs : List (TV A)), tresL R τ F H l = some vs → lresL τ (embF R F) (embH R H) l = some (embC R vs) := by
  intro l
  induction l with
  | nil => intro vs h; obtain rfl := Option.some.inj h; rfl
  | cons r l ih =>
    intro vs h
    cases r with
    | tmp t =>
      simp only [tresL] at h
      split at h
      · rename_i l' hl
        obtain rfl := Option.some.inj h
        simp only [lresL, ih _ hl, Option.map_some, embC, fget_embF]
      · cases h
    | cell a t =>
      simp only [tresL] at h
      split at h
      · rename_i ti k o h1 h2
        split at h
        · rename_i cs hr
          split at h
          · rename_i x l' hx hl
            obtain rfl := Option.some.inj h
            simp only [lresL, h1, fget_embF, h2, emb, row_emb R hr, embR, tpart_emb R hx, ih _ hl, embC]
          · cases h
        · cases h
      · cases h

/-- A function's value. -/
def tres (R : Reg A) (τ : TT) (rs : List ResultVar) (F : TF A) (H : TH A) : Option (TV A) :=
  match tresL R τ F H rs with
  | some [x] => some x
  | some l => some (.tup l)
  | none => none

theorem tres_ok {rs : List ResultVar} {F : TF A} {H : TH A} {v : TV A} (h : tres R τ rs F H = some v) : resS τ rs (embF R F) (embH R H) = some (emb R v) := by
  unfold tres at h
  unfold resS
  split at h
  · rename_i x hx
    obtain rfl := Option.some.inj h
    rw [tresL_ok _ _ hx]; rfl
  · rename_i l hne hl
    obtain rfl := Option.some.inj h
    rw [tresL_ok _ _ hl]
    cases l with
    | nil => rfl
    | cons a r =>
      cases r with
      | nil => exact absurd rfl (hne a)
      | cons b r => rfl
  · cases h

def tret (R : Reg A) (τ : TT) (rs : List ResultVar) (Q : TV A → TH A → Prop) : TPost A
  | .normal, F, H => ∃ v, tres R τ rs F H = some v ∧ Q v H
  | .ret, F, H => ∃ v, tres R τ rs F H = some v ∧ Q v H
  | _, _, _ => False

theorem tc (E : Env A R P τ fl) {f : Nat} {sf : SF} {args : List (TV A)} {H : TH A} {Q : TV A → TH A → Prop} (h : slimF P f = some sf) (ha : Nat.ble args.length sf.n = true)
    (hw : Tw R P ⟨sf.n, H.length, false, none⟩ sf.code (tret R τ sf.rs Q) (tframe 0 args) H) : TC R P f args H Q := by
  refine lc h (by rw [embC_length]; exact Nat.le_of_ble_eq_true ha) ?_
  rw [embH_length, ← tframe_emb]
  refine Lw.mono hw fun e F G ⟨F', G', q, e1, e2⟩ => ?_
  have key : (∃ v, tres R τ sf.rs F' G' = some v ∧ Q v G') → ocase (resS (ttOf P) sf.rs F G) fun x => ∃ v X, Q v X ∧ x = emb R v ∧ G = embH R X := by
    intro ⟨v, hv, hq⟩
    have := tres_ok hv
    rw [E.τ] at this
    subst e1; subst e2
    rw [this]
    exact ⟨v, G', hq, rfl, rfl⟩
  cases e with
  | normal => exact key q
  | ret => exact key q
  | _ => exact q

/-! ### Calls -/
def fv {β : Type} (v : TV A) (k : TV A → Option β) : Option β := match v with
  | .dead => k .dead
  | .und => k .und
  | .bool b => k (.bool b)
  | .int kd n => k (.int kd n)
  | .str s => k (.str s)
  | .nilp => k .nilp
  | .nils => k .nils
  | .nilf => k .nilf
  | .yld l => k (.yld l)
  | .ptr h o => k (.ptr h o)
  | .ptrE sz h i o => k (.ptrE sz h i o)
  | .pel cs => k (.pel cs)
  | .sl sz h o n => k (.sl sz h o n)
  | .sla sz h o n => k (.sla sz h o n)
  | .lst e xs => k (.lst e xs)
  | .fn f cs => k (.fn f cs)
  | .agg cs => k (.agg cs)
  | .tup cs => k (.tup cs)
  | .opt g w => k (.opt g w)
theorem fv_eq {β : Type} (v : TV A) (k : TV A → Option β) : fv v k = k v := by cases v <;> rfl

def vals {β : Type} (F : TF A) : List Operand → (List (TV A) → Option β) → Option β
  | [], k => k []
  | o :: r, k => fv (tO F o) fun v => vals F r fun vs => k (v :: vs)
theorem vals_eq {β : Type} (F : TF A) : ∀ (l : List Operand) (k : List (TV A) → Option β), vals F l k = k (l.map (tO F)) := by
  intro l
  induction l with
  | nil => intro k; rfl
  | cons o r ih => intro k; simp only [vals, fv_eq, ih, List.map_cons]

/-- The guard says yes. -/
def tgate (F : TF A) : Option (Nat × Bool) → Bool
  | none => true
  | some (t, want) => match tget F t with
    | .bool b => cond want b (!b)
    | .opt g (.bool b) => g && cond want b (!b)
    | _ => false
theorem tgate_ok {F : TF A} {g : Option (Nat × Bool)} (h : tgate F g = true) : wantS g (embF R F) = some true := by
  rcases g with _ | ⟨t, want⟩
  · rfl
  · simp only [tgate] at h
    simp only [wantS, fget_embF]
    split at h
    · rename_i b e; rw [e]; simp only [emb]; cases b <;> cases want <;> first | rfl | cases h
    · rename_i g0 b e; rw [e]; simp only [emb]; cases g0 <;> cases b <;> cases want <;> first | rfl | cases h
    · cases h

def tcallD (F : TF A) (s : SO) : Option (Nat × List (TV A)) :=
  match s.op with
  | .call ⟨.value g, args, _⟩ => (match tO F g with
    | .fn f cap => vals F args.toList fun as => (match cap with | [] => some (f, as) | c :: r => cond (undT c) none (some (f, as ++ c :: r)))
    | _ => none)
  | _ => none

theorem tcallD_ok {F : TF A} {s : SO} {f : Nat} {as : List (TV A)} (h : tcallD F s = some (f, as)) :
    ∃ g args tys cap, s.op = .call ⟨.value g, args, tys⟩ ∧ evalO (embF R F) g = .fn f cap ∧ isUnd cap = false ∧ args.toList.map (evalO (embF R F)) ++ cap = embC R as := by
  unfold tcallD at h
  split at h
  · rename_i g args tys hop
    split at h
    · rename_i f' cap hg
      rw [vals_eq] at h
      have hu : isUnd (embC R cap) = false ∧ some (f', args.toList.map (tO F) ++ cap) = some (f, as) := by
        cases cap with
        | nil => exact ⟨rfl, by rw [← h]; simp⟩
        | cons c r =>
          dsimp only at h
          cases hc : undT c with
          | true => rw [hc] at h; cases h
          | false => rw [hc] at h; exact ⟨undT_emb hc, h⟩
      obtain ⟨hu, this⟩ := hu
      simp only [Option.some.injEq, Prod.mk.injEq] at this
      obtain ⟨rfl, rfl⟩ := this
      exact ⟨g, args, tys, embC R cap, hop, by rw [evalO_emb, hg]; rfl, hu, by rw [embL_eq, embC_append]⟩
    · cases h
  · cases h

/-- .. where a function value may have its first arguments. -/
def tcall (F : TF A) (s : SO) : Option (Nat × List (TV A)) :=
  match s.op with
  | .call ⟨.value g, args, _⟩ => (match tO F g with
    | .fn f cap => vals F args.toList fun as => (match cap with | [] => some (f, as) | .und :: r => some (f, r ++ as) | c :: r => cond (undT c) none (some (f, as ++ c :: r)))
    | _ => none)
  | _ => none
theorem tcall_ok {F : TF A} {s : SO} {f : Nat} {as : List (TV A)} (h : tcall F s = some (f, as)) :
    ∃ g args tys cap, s.op = .call ⟨.value g, args, tys⟩ ∧ evalO (embF R F) g = .fn f cap ∧ callArgs cap (args.toList.map (evalO (embF R F))) = embC R as := by
  unfold tcall at h
  split at h
  · rename_i g args tys hop
    split at h
    · rename_i f' cap hg
      rw [vals_eq] at h
      cases cap with
      | nil =>
        simp only [Option.some.injEq, Prod.mk.injEq] at h
        obtain ⟨rfl, rfl⟩ := h
        exact ⟨g, args, tys, [], hop, by rw [evalO_emb, hg]; rfl, by rw [callArgs_off rfl, embL_eq, List.append_nil]⟩
      | cons c r =>
        by_cases hc0 : c = .und
        · subst hc0
          simp only [Option.some.injEq, Prod.mk.injEq] at h
          obtain ⟨rfl, rfl⟩ := h
          exact ⟨g, args, tys, embC R (.und :: r), hop, by rw [evalO_emb, hg]; rfl, by rw [callArgs_on rfl, embL_eq, embC_append]; rfl⟩
        · have h2 : cond (undT c) none (some (f', args.toList.map (tO F) ++ c :: r)) = some (f, as) := by
            cases c <;> first | exact h | exact absurd rfl hc0
          cases hc : undT c with
          | true => rw [hc] at h2; cases h2
          | false =>
            rw [hc] at h2
            simp only [cond_false, Option.some.injEq, Prod.mk.injEq] at h2
            obtain ⟨rfl, rfl⟩ := h2
            exact ⟨g, args, tys, embC R (c :: r), hop, by rw [evalO_emb, hg]; rfl, by rw [callArgs_off (undT_emb hc), embL_eq, embC_append]⟩
    · cases h
  · cases h

theorem TOps.callK {s : SO} {r : List SO} {Q : TF A → TH A → Prop} {F : TF A} {H : TH A} {f : Nat} {as : List (TV A)} (hg : tgate F s.g = true) (hs : tcall F s = some (f, as))
    (h : callK P f (embC R as) (embH R H) fun x G => ∃ v X, x = emb R v ∧ G = embH R X ∧ TOps R P N r Q (tlput s.dst v F) X) : TOps R P N (s :: r) Q F H := by
  obtain ⟨g, args, tys, cap, hop, hgv, ha⟩ := tcall_ok (R := R) hs
  refine OpsW.step (tgate_ok hg) ?_
  have h1 : pureOp (ttOf P) (embF R F) s.op = none := by rw [hop]; rfl
  have h2 : loadOp (ttOf P) (embF R F) (embH R H) s.op = none := by rw [hop]; rfl
  have h3 : effN (ttOf P) (embF R F) (embH R H) s.op = none := by rw [hop]; rfl
  unfold stepOp
  rw [h1, h2, h3]
  simp only [hop, hgv, ha]
  refine h.mono fun x G ⟨v, X, e1, e2, k⟩ => ?_
  subst e1; subst e2
  unfold TOps at k
  rw [tlput_emb] at k
  exact k

/-- A call whose arguments hold no rows. -/
theorem TOps.call (E : Env A R P τ fl) {s : SO} {r : List SO} {Q : TF A → TH A → Prop} {F : TF A} {H : TH A} {f : Nat} {as : List (TV A)} {Q' : TV A → TH A → Prop} (hg : tgate F s.g = true) (hs : tcall F s = some (f, as)) (hf : thfreeL as = true)
    (hc : TC R P f as [] Q') (k : ∀ v X, Q' v X → TOps R P N r Q (tlput s.dst (tren (H.length + ·) v) F) (H ++ trenH (H.length + ·) X)) : TOps R P N (s :: r) Q F H := by
  refine .callK hg hs (.bare (thfreeL_emb R _ hf) (LC.mono hc fun x G ⟨v, X, q, e1, e2⟩ => ?_))
  subst e1; subst e2
  exact ⟨_, _, by rw [tren_emb, embH_length], by rw [embH_append, trenH_emb R E.ok, embH_length], k v X q⟩

/-- A call that is shown the rows as plain values. -/
theorem TOps.callS (E : Env A R P τ fl) {s : SO} {r : List SO} {Q : TF A → TH A → Prop} {F : TF A} {H : TH A} {f : Nat} {as as0 : List (TV A)} {p : List Prop} {Q' : TV A → TH A → Prop} (hg : tgate F s.g = true) (hs : tcall F s = some (f, as))
    (ha : ((as.map (tsnap R H 3)).flatMap (·.1), (as.map (tsnap R H 3)).map (·.2)) = (p, as0)) (hp : Conj p) (hc : TC R P f as0 [] Q')
    (k : ∀ v X, Q' v X → tpfree v = true ∧ tpfreeH fl X = true ∧ TOps R P N r Q (tlput s.dst (tren (H.length + ·) v) F) (H ++ trenH (H.length + ·) X)) : TOps R P N (s :: r) Q F H := by
  obtain ⟨rfl, rfl⟩ := Prod.mk.inj ha
  refine .callK hg hs (.snap (LC.mono (LC.args ?_ ?_ hc) fun x G ⟨v, X, q, e1, e2⟩ => ?_))
  · simp [embC_length]
  · intro i h1 h2
    have hi : i < as.length := by rw [embC_length] at h1; simpa using h1
    have := tsnap_ok R E.ok H 3 as[i] (Conj.flat hp _ (List.mem_map.2 ⟨as[i], List.getElem_mem hi, rfl⟩))
    simpa [embC_eq] using this
  · subst e1; subst e2
    obtain ⟨k1, k2, k3⟩ := k v X q
    exact ⟨tpfree_emb R v k1, tpfreeH_emb R E.fl X k2, _, _, by rw [tren_emb, embH_length], by rw [embH_append, trenH_emb R E.ok, embH_length], k3⟩

def tsetRows : TH A → List Nat → TH A → TH A
  | H, [], _ => H
  | H, h :: r, x :: xs => tsetRows (H.set h x) r xs
  | H, h :: r, [] => tsetRows (H.set h none) r []
theorem tsetRows_emb : ∀ (ρ : List Nat) (H X : TH A), embH R (tsetRows H ρ X) = setRows (embH R H) ρ (embH R X) := by
  intro ρ
  induction ρ with
  | nil => intro H X; rfl
  | cons h r ih => intro H X; cases X <;> simp only [tsetRows, embH, setRows] <;> rw [ih, embH_set] <;> rfl

def nodupB : List Nat → Bool
  | [] => true
  | x :: r => !(r.contains x) && nodupB r
theorem nodupB_ok : ∀ {l : List Nat}, nodupB l = true → l.Nodup := by
  intro l
  induction l with
  | nil => intro _; exact List.nodup_nil
  | cons x r ih =>
    intro h
    simp only [nodupB, Bool.and_eq_true, Bool.not_eq_true'] at h
    exact List.nodup_cons.2 ⟨by simpa using h.1, ih h.2⟩

/-- Rows are handed over: number j of the callee's is number ρ j of the caller's. -/
theorem TOps.callH (E : Env A R P τ fl) {s : SO} {r : List SO} {Q : TF A → TH A → Prop} {F : TF A} {H : TH A} {f : Nat} {as : List (TV A)} {Q' : TV A → TH A → Prop} (ρ : List Nat) (as0 : List (TV A)) (H0 : TH A) (hg : tgate F s.g = true) (hs : tcall F s = some (f, as))
    (hn : nodupB ρ = true) (hlt : ρ.all (Nat.blt · H.length) = true) (hlen : H0.length = ρ.length) (ha : trenL (gOf ρ H.length) as0 = as)
    (hrows : ∀ (j h : Nat) (x : TRow A), ρ[j]? = some h → H0[j]? = some (some x) → H[h]? = some (trenR (gOf ρ H.length) (some x)))
    (hc : TC R P f as0 H0 Q') (k : ∀ v X, Q' v X → TOps R P N r Q (tlput s.dst (tren (gOf ρ H.length) v) F) (tsetRows H ρ (trenH (gOf ρ H.length) (X.take ρ.length)) ++ trenH (gOf ρ H.length) (X.drop ρ.length))) : TOps R P N (s :: r) Q F H := by
  subst ha
  refine .callK hg hs ?_
  rw [trenL_emb, renL_eq, ← embH_length R H]
  have hg2 : H.length = (embH R H).length := (embH_length R H).symm
  refine .hand ρ (nodupB_ok hn) (fun h hh => ?_) (by rw [embH_length]; exact hlen) (fun j h cs hj hcs => ?_) (LC.mono hc fun x G ⟨v, X, q, e1, e2⟩ => ?_)
  · have := List.all_eq_true.1 hlt h hh
    rw [embH_length]; simpa using this
  · rw [embH_get] at hcs ⊢
    cases hx : H0[j]? with
    | none => rw [hx] at hcs; cases hcs
    | some x =>
      rw [hx] at hcs
      cases x with
      | none => cases hcs
      | some x =>
        obtain rfl := Option.some.inj (Option.some.inj hcs)
        rw [hrows j h x hj hx, Option.map_some, trenR_emb R E.ok, embH_length]
        rfl
  · subst e1; subst e2
    refine ⟨_, _, by rw [tren_emb, embH_length], ?_, k v X q⟩
    have tk : ∀ (n : Nat) (X : TH A), embH R (X.take n) = (embH R X).take n := by
      intro n
      induction n with
      | zero => intro X; rfl
      | succ n ih => intro X; cases X with | nil => rfl | cons x X => simp [embH, ih]
    have dr : ∀ (n : Nat) (X : TH A), embH R (X.drop n) = (embH R X).drop n := by
      intro n
      induction n with
      | zero => intro X; rfl
      | succ n ih => intro X; cases X with | nil => rfl | cons x X => simp [embH, ih]
    rw [embH_append, tsetRows_emb, trenH_emb R E.ok, trenH_emb R E.ok, tk, dr, embH_length]

def tgateN (F : TF A) : Option (Nat × Bool) → Bool
  | none => false
  | some (t, want) => match tget F t with
    | .bool b => !(cond want b (!b))
    | .opt g (.bool b) => !(g && cond want b (!b))
    | .und => true
    | _ => false
theorem tgateN_ok {F : TF A} {g : Option (Nat × Bool)} (h : tgateN F g = true) : wantS g (embF R F) = some false := by
  rcases g with _ | ⟨t, want⟩
  · cases h
  · simp only [tgateN] at h
    simp only [wantS, fget_embF]
    split at h
    · rename_i b e; rw [e]; simp only [emb]; cases b <;> cases want <;> first | rfl | cases h
    · rename_i g0 b e; rw [e]; simp only [emb]; cases g0 <;> cases b <;> cases want <;> first | rfl | cases h
    · rename_i e; rw [e]; rfl
    · cases h

/-- An operation that does not come up. -/
theorem TOps.skip {s : SO} {r : List SO} {Q : TF A → TH A → Prop} {F : TF A} {H : TH A} (hg : tgateN F s.g = true) (k : TOps R P N r Q (tlput s.dst .und F) H) : TOps R P N (s :: r) Q F H := by
  refine OpsW.skip (tgateN_ok hg) ?_
  unfold TOps at k
  rw [tlput_emb] at k
  exact k

end
end Go.Lite

/- Lite, part TJ: regions that draw their order, on typed values. -/
namespace Go.Lite
open Go Go.RowKit
set_option linter.unusedVariables false

section
variable {P : Program} {F : Fr} {H : Hp} {s : SO}

theorem SFact.more {c c' : DA} (h : SFact P s F H c) (hd : c'.d = c.d) (hx : c'.x = c.x) (hw : c'.ws = c.ws) (hn : c'.nw = c.nw) (hl : ∀ t ∈ c.ls, t ∈ c'.ls) (hr : ∀ r ∈ c.rs, r ∈ c'.rs) : SFact P s F H c' := by
  obtain ⟨h1, h2⟩ := h
  refine ⟨by rw [hd, h1], fun ops o e1 e2 e3 cx N ι per G X a w hst hls hrs hnw K Q hK => ?_⟩
  refine h2 ops o e1 e2 e3 cx N ι per G X a w hst (fun t ht => hls t (hl t ht)) (fun r hr' => hrs r (hr r hr')) (by rw [← hn]; exact hnw) K Q ?_
  intro ι' per' v w' hs hv hi
  exact hK ι' per' v w' (by rw [hw]; exact hs) (by rw [hx]; exact hv) (by rw [hn]; exact hi)
end

section
variable {A : Nat → Type} (R : Reg A)

def rowsT : TV A → List Nat
  | .ptr h _ => [h]
  | .ptrE _ h _ _ => [h]
  | .sl _ h _ _ => [h]
  | .sla _ h _ _ => [h]
  | .opt _ v => rowsT v
  | _ => []

theorem rowsT_emb : ∀ (v : TV A), ∀ r ∈ rowsIn (emb R v), r ∈ rowsT v
  | .opt g v, r, h => by
    simp only [emb] at h
    cases g with
    | true => exact rowsT_emb v r h
    | false => simp [rowsIn] at h
  | .ptr _ _, r, h => h
  | .ptrE _ _ _ _, r, h => h
  | .sl _ _ _ _, r, h => h
  | .sla _ _ _ _, r, h => h
  | .dead, r, h => by simp [emb, rowsIn] at h
  | .und, r, h => by simp [emb, rowsIn] at h
  | .bool _, r, h => by simp [emb, rowsIn] at h
  | .int _ _, r, h => by simp [emb, rowsIn] at h
  | .str _, r, h => by simp [emb, rowsIn] at h
  | .nilp, r, h => by simp [emb, rowsIn] at h
  | .nils, r, h => by simp [emb, rowsIn] at h
  | .nilf, r, h => by simp [emb, rowsIn] at h
  | .yld _, r, h => by simp [emb, rowsIn] at h
  | .pel _, r, h => by simp [emb, rowsIn] at h
  | .lst _ _, r, h => by simp [emb, rowsIn] at h
  | .fn _ _, r, h => by simp [emb, rowsIn] at h
  | .agg _, r, h => by simp [emb, rowsIn] at h
  | .tup _, r, h => by simp [emb, rowsIn] at h

def isEff : Op → Bool
  | .store _ _ _ | .alloc _ | .box _ _ | .buildSlice _ _ _ | .makeSlice _ _ _ | .call ⟨.builtin .append, _, _⟩ | .call ⟨.builtin .copy, _, _⟩ | .call ⟨.builtin .clear, _, _⟩ => true
  | _ => false

def tslice (F : TF A) : Op → List Nat
  | .slice _ x _ _ none => (match tO F x with | .sla _ _ _ _ => [] | .sl _ _ _ _ => [] | .lst _ _ => [] | .nils => [] | .str _ => [] | y => rowsT y)
  | _ => []
theorem tslice_emb (F : TF A) (op : Op) : ∀ r ∈ sliceRows (embF R F) op, r ∈ tslice F op := by
  intro r hr
  cases op with
  | slice t x lo hi mx =>
    cases mx with
    | some m => simp [sliceRows] at hr
    | none =>
      simp only [sliceRows, evalO_emb] at hr
      have key : r ∈ rowsIn (emb R (tO F x)) := by
        split at hr
        · rename_i h o e
          rw [e]; simpa [rowsIn] using hr
        · simp at hr
      have := rowsT_emb R _ r key
      simp only [tslice]
      split
      all_goals first | (rename_i e; rw [e] at hr; simp [emb] at hr; done) | exact this
  | _ => simp [sliceRows] at hr
/-- The rows that an operation looks at. -/
def tlook (F : TF A) (op : Op) : List Nat := cond (isLoad op || isEff op) ((op.operands.toList.map (tO F)).flatMap rowsT) (tslice F op)

theorem tlook_emb (F : TF A) (op : Op) (h : (isLoad op || isEff op) = true) : ∀ r ∈ lookRows (embF R F) op, r ∈ tlook F op := by
  intro r hr
  unfold tlook
  rw [h]
  simp only [lookRows, List.mem_flatMap, List.mem_map, cond_true] at hr ⊢
  obtain ⟨x, ⟨o, ho, rfl⟩, hx⟩ := hr
  rw [evalO_emb] at hx
  exact ⟨_, ⟨o, ho, rfl⟩, rowsT_emb R _ r hx⟩

/-- What an operation did. -/
def tcert (F : TF A) (H : TH A) (s : SO) (x : TV A) (ws : List (Nat × Option (TRow A))) : DA :=
  ⟨s.dst, emb R x, embW R ws, guardSlot s.g ++ slotsOf s.op, tlook F s.op, cond (Nat.beq ws.length 0) [] (cond (makes s.op) [H.length] [])⟩
def tnew (s : SO) (ws : List (Nat × Option (TRow A))) : Nat := cond (Nat.beq ws.length 0) 0 (cond (makes s.op) 1 0)

theorem eff_is {τ : TT} {F : Fr} {H : Hp} {n : Nat} {op : Op} {r : LV × List (Nat × Option (List LV))} (h : effOp τ F H n op = some r) : isEff op = true ∧ r.2.length ≠ 0 := by
  cases op with
  | call c =>
    obtain ⟨callee, args, tys⟩ := c
    cases callee with
    | builtin b =>
      cases b <;> first
        | cases h
        | (refine ⟨rfl, ?_⟩; simp only [effOp] at h; (repeat' split at h) <;> simp only [Option.some.injEq, reduceCtorEq] at h <;> subst h <;> simp)
    | _ => cases h
  | _ =>
    first
      | cases h
      | (refine ⟨rfl, ?_⟩; simp only [effOp] at h; (repeat' split at h) <;> simp only [Option.some.injEq, reduceCtorEq] at h <;> subst h <;> simp)

theorem embW_length (ws : List (Nat × Option (TRow A))) : (embW R ws).length = ws.length := by
  induction ws with
  | nil => rfl
  | cons p r ih => obtain ⟨h, x⟩ := p; simp [embW, ih]

theorem tcert_ok {P : Program} {s : SO} {F : TF A} {H : TH A} {x : TV A} {ws : List (Nat × Option (TRow A))} (h : OneOk R (ttOf P) s F H x ws) : SFact P s (embF R F) (embH R H) (tcert R F H s x ws) := by
  rcases h with ⟨rfl, ⟨hw, hv⟩ | ⟨hw, hv⟩⟩ | ⟨hw, hg, hv⟩
  · refine (SFact.val hw hv).more rfl rfl rfl rfl (fun t ht => ht) (fun r hr => ?_)
    simp only [valRows] at hr
    split at hr
    · rename_i hl
      exact tlook_emb R F s.op (by rw [hl]; rfl) r hr
    · rename_i hl
      have := tslice_emb R F s.op r hr
      cases hop : s.op <;> rw [hop] at this <;> first | (simp [tslice] at this; done) | skip
      show r ∈ tlook F s.op
      rw [hop]
      simpa [tlook, isLoad, isEff] using this
  · refine (SFact.skip hw).more rfl hv rfl rfl (fun t ht => ?_) (fun r hr => ?_)
    · simp only [tcert, List.mem_append]; exact .inl ht
    · simp at hr
  · obtain ⟨k1, k2⟩ := eff_is hv
    rw [embW_length] at k2
    rw [← embH_length R H] at hv
    refine (SFact.eff hw hv).more rfl rfl rfl ?_ (fun t ht => ht) (fun r hr => tlook_emb R F s.op (by rw [k1]; simp) r hr)
    simp only [tcert]
    have : Nat.beq ws.length 0 = false := by
      cases hb : Nat.beq ws.length 0 with
      | false => rfl
      | true => exact absurd (Nat.eq_of_beq_eq_true hb) k2
    rw [this, embH_length]
    cases makes s.op <;> simp

end

section
variable {A : Nat → Type} {R : Reg A} {P : Program} {N : Dim} {τ : TT} {fl : Nat → Bool}

/-- The rest of a region that draws its order: what it does, and what is to be shown behind it. -/
def TDr (R : Reg A) (P : Program) (l : List SO) (F : TF A) (H : TH A) (K : List DA → TF A → TH A → Prop) : Prop :=
  ∃ cs F' H', Chain P l (embF R F) (embH R H) cs (embF R F') (embH R H') ∧ K cs F' H'

theorem TDr.nil {F : TF A} {H : TH A} {K : List DA → TF A → TH A → Prop} (h : K [] F H) : TDr R P [] F H K := ⟨[], F, H, .nil, h⟩

theorem embH_nones (n : Nat) : embH R (List.replicate n none) = List.replicate n none := by
  induction n with
  | zero => rfl
  | succ n ih => simp [List.replicate_succ, embH, embO, ih]

theorem keys_embW : ∀ (ws : List (Nat × Option (TRow A))), (embW R ws).map (·.1) = ws.map (·.1) := by
  intro ws
  induction ws with
  | nil => rfl
  | cons p r ih => obtain ⟨h, x⟩ := p; simp [embW, ih]

theorem TDr.cons {s : SO} {r : List SO} {F : TF A} {H : TH A} {K : List DA → TF A → TH A → Prop} {x : TV A} {ws : List (Nat × Option (TRow A))} {c : DA} {e : Nat} (hf : SFact P s (embF R F) (embH R H) c) (hx : c.x = emb R x) (hws : c.ws = embW R ws)
    (hr : c.rs.all (Nat.blt · H.length) = true) (hk : (ws.map (·.1)).all (Nat.blt · (H.length + e)) = true) (hn : ∀ x ∈ c.nw, H.length ≤ x ∧ x < H.length + e)
    (k : TDr R P r (tlput s.dst x F) (tapply (H ++ List.replicate e none) ws) (fun cs => K (c :: cs))) : TDr R P (s :: r) F H K := by
  obtain ⟨cs, F', H', h1, h2⟩ := k
  refine ⟨c :: cs, F', H', .cons e hf (fun y hy => ?_) (fun y hy => ?_) (fun y hy => by rw [embH_length]; exact hn y hy) ?_, h2⟩
  · have := List.all_eq_true.1 hr y hy
    rw [embH_length]; simpa using this
  · unfold DA.keys at hy
    rw [hws, keys_embW] at hy
    have := List.all_eq_true.1 hk y hy
    rw [embH_length]; simpa using this
  · rw [tlput_emb, tapply_emb, embH_append, embH_nones] at h1
    rw [hx, hws]; exact h1

/-- The operations up to the first call. -/
def tdrun (R : Reg A) (τ : TT) : List SO → TF A → TH A → List Prop → List DA → Option (List Prop × List DA × List SO × TF A × TH A)
  | [], F, H, acc, cs => some (acc, cs, [], F, H)
  | s :: r, F, H, acc, cs => match tone R τ s F H with
    | some (p, x, ws) => cond ((tlook F s.op).all (Nat.blt · H.length) && (ws.map (·.1)).all (Nat.blt · (H.length + tnew s ws)))
        (tdrun R τ r (tlput s.dst x F) (tapply (H ++ List.replicate (tnew s ws) none) ws) (acc ++ p) (cs ++ [tcert R F H s x ws])) none
    | none => some (acc, cs, s :: r, F, H)

theorem tdrun_ok (E : Env A R P τ fl) : ∀ (l : List SO) (F F' : TF A) (H H' : TH A) (acc p : List Prop) (cs0 cs : List DA) (rest : List SO) (K : List DA → TF A → TH A → Prop), tdrun R τ l F H acc cs0 = some (p, cs, rest, F', H') → Conj p →
    TDr R P rest F' H' (fun c => K (cs ++ c)) → Conj acc ∧ TDr R P l F H (fun c => K (cs0 ++ c)) := by
  intro l
  induction l with
  | nil =>
    intro F F' H H' acc p cs0 cs rest K h hc k
    simp only [tdrun, Option.some.injEq, Prod.mk.injEq] at h
    obtain ⟨rfl, rfl, rfl, rfl, rfl⟩ := h
    exact ⟨hc, k⟩
  | cons s r ih =>
    intro F F' H H' acc p cs0 cs rest K h hc k
    simp only [tdrun] at h
    split at h
    · rename_i q x ws h1
      cases hb : (tlook F s.op).all (Nat.blt · H.length) && (ws.map (·.1)).all (Nat.blt · (H.length + tnew s ws)) with
      | false => rw [hb] at h; cases h
      | true =>
        rw [hb] at h
        simp only [cond_true] at h
        simp only [Bool.and_eq_true] at hb
        obtain ⟨c1, c2⟩ := ih _ _ _ _ _ _ _ _ _ K h hc k
        obtain ⟨c3, c4⟩ := Conj.app c1
        refine ⟨c3, .cons (x := x) (ws := ws) (e := tnew s ws) (c := tcert R F H s x ws) (tcert_ok R (by rw [← E.τ]; exact tone_ok R E.ok h1 c4)) rfl rfl hb.1 hb.2 (fun y hy => ?_) ?_⟩
        · simp only [tcert, tnew] at hy ⊢
          cases hb0 : Nat.beq ws.length 0 <;> rw [hb0] at hy <;> simp only [cond_true, cond_false] at hy ⊢
          · cases hm : makes s.op <;> rw [hm] at hy <;> simp only [cond_true, cond_false, List.mem_singleton, List.not_mem_nil] at hy ⊢
            omega
          · simp at hy
        · simpa only [List.append_assoc, List.singleton_append] using c2
    · simp only [Option.some.injEq, Prod.mk.injEq] at h
      obtain ⟨rfl, rfl, rfl, rfl, rfl⟩ := h
      exact ⟨hc, k⟩

theorem TDr.run (E : Env A R P τ fl) {l rest : List SO} {F F' : TF A} {H H' : TH A} {p : List Prop} {cs : List DA} {K : List DA → TF A → TH A → Prop} (h : tdrun R τ l F H [] [] = some (p, cs, rest, F', H')) (hc : Conj p)
    (k : TDr R P rest F' H' (fun c => K (cs ++ c))) : TDr R P l F H K := (tdrun_ok E l F F' H H' [] p [] cs rest K h hc k).2

/-- A region that draws its order. -/
theorem Tw.regd (E : Env A R P τ fl) {l : List SO} {af : List (List Nat)} {Q : TPost A} {F : TF A} {H : TH A} (h : TDr R P l F H (fun cs F' H' => okB af cs = true ∧ Q .normal F' H')) : Tw R P N (.regd l af) Q F H := by
  obtain ⟨cs, F', H', h1, h2, h3⟩ := h
  exact Lw.regd E.mixed h1 h2 ⟨F', H', h3, rfl, rfl⟩

def tolOps (l : List SO) : List (Nat × Nat) → Bool
  | [] => true
  | (i, k) :: r => (match l[i]?, l[k]? with
    | some ⟨_, .load _ _, _⟩, some ⟨_, .call _, _⟩ => true
    | _, _ => false) && tolOps l r

/-- A region that draws its order, where the loads i of the pairs (i, k) look at rows that the later calls k lay anew, with the same value there. -/
theorem Tw.regdT (E : Env A R P τ fl) (tol : List (Nat × Nat)) {l : List SO} {af : List (List Nat)} {Q : TPost A} {F : TF A} {H : TH A} (_ : tolOps l tol = true)
    (h : TDr R P l F H (fun cs F' H' => okTol tol af cs = true ∧ TolsOk τ l cs (embF R F) tol ∧ tol.all (fun p => (cs.getD p.1 default).rs.all (Nat.blt · H'.length)) = true ∧ Q .normal F' H')) : Tw R P N (.regd l af) Q F H := by
  obtain ⟨cs, F', H', h1, h2, h3, h4, h5⟩ := h
  refine Lw.regdT tol E.mixed h1 h2 (fun i k hik => ?_) ⟨F', H', h5, rfl, rfl⟩
  rw [E.τ] at h3
  obtain ⟨s, c, ck, r, Hk, t1, t2, t3, t4, t5, t6⟩ := (h3.of i k hik).fact
  refine ⟨s, c, ck, r, Hk, t1, t2, t3, t4, fun X hX hk => t5 X ?_ hk, t6⟩
  have a1 := List.all_eq_true.1 h4 (i, k) hik
  have a2 : cs.getD i default = c := by simp [List.getD_eq_getElem?_getD, t2]
  simp only [a2, t4, List.all_cons, List.all_nil, Bool.and_true] at a1
  rw [hX, embH_length]
  simpa using a1

/-! ### Calls there -/
mutual
def treachV (D : Nat → List Nat) : TV A → List Nat
  | .sla _ h _ _ => h :: D h
  | .sl _ h _ _ => h :: D h
  | .ptr h _ => h :: D h
  | .ptrE _ h _ _ => h :: D h
  | .agg cs => treachL D cs
  | .fn _ cs => treachL D cs
  | .opt _ w => treachV D w
  | .dead | .und | .bool _ | .int _ _ | .str _ | .nilp | .nils | .nilf | .yld _ | .pel _ | .lst _ _ | .tup _ => []
def treachL (D : Nat → List Nat) : List (TV A) → List Nat
  | [] => []
  | c :: r => treachV D c ++ treachL D r
end

/-- The rows that a reader reaches. -/
def treach (H : TH A) : Nat → TV A → List Nat
  | 0, v => treachV (fun _ => []) v
  | k + 1, v => treachV (fun h => match trow H h with
    | some (.cells cs) => cs.flatMap (treach H k)
    | _ => []) v

mutual
theorem treachV_ok (hR : R.Ok) (H : TH A) (k : Nat) (D : Nat → List Nat) (hD : ∀ h0 cs, trow H h0 = some (.cells cs) → ∀ c ∈ cs, ∀ j, j ≤ k → ∀ r ∈ reach (embH R H) j (emb R c), r ∈ D h0) : ∀ (v : TV A) (j : Nat), j ≤ k + 1 → ∀ r ∈ reach (embH R H) j (emb R v), r ∈ treachV D v
  | .sla sz h o n, j, hj, r, hr => by
    cases j with
    | zero => simp [reach] at hr
    | succ j => simp only [emb, reach] at hr; exact rows hR H k D hD h j (by omega) r hr
  | .sl sz h o n, j, hj, r, hr => by
    cases j with
    | zero => simp [reach] at hr
    | succ j => simp only [emb, reach] at hr; exact rows hR H k D hD h j (by omega) r hr
  | .agg cs, j, hj, r, hr => by
    cases j with
    | zero => simp [reach] at hr
    | succ j =>
      simp only [emb, reach] at hr
      split at hr
      · simp at hr
      · exact treachL_ok hR H k D hD cs j (by omega) r hr
  | .fn f cs, j, hj, r, hr => by
    cases j with
    | zero => simp [reach] at hr
    | succ j =>
      simp only [emb, reach] at hr
      split at hr
      · simp at hr
      · exact treachL_ok hR H k D hD cs j (by omega) r hr
  | .opt g w, j, hj, r, hr => by
    simp only [emb] at hr
    cases g with
    | false => cases j <;> simp [reach] at hr
    | true => exact treachV_ok hR H k D hD w j hj r hr
  | .dead, j, _, r, hr => by cases j <;> simp [emb, reach] at hr
  | .und, j, _, r, hr => by cases j <;> simp [emb, reach] at hr
  | .bool _, j, _, r, hr => by cases j <;> simp [emb, reach] at hr
  | .int _ _, j, _, r, hr => by cases j <;> simp [emb, reach] at hr
  | .str _, j, _, r, hr => by cases j <;> simp [emb, reach] at hr
  | .nilp, j, _, r, hr => by cases j <;> simp [emb, reach] at hr
  | .nils, j, _, r, hr => by cases j <;> simp [emb, reach] at hr
  | .nilf, j, _, r, hr => by cases j <;> simp [emb, reach] at hr
  | .yld _, j, _, r, hr => by cases j <;> simp [emb, reach] at hr
  | .pel _, j, _, r, hr => by cases j <;> simp [emb, reach] at hr
  | .lst _ _, j, _, r, hr => by cases j <;> simp [emb, reach] at hr
  | .ptr h o, j, hj, r, hr => by
    cases j with
    | zero => simp [reach] at hr
    | succ j => simp only [emb, reach] at hr; exact rows hR H k D hD h j (by omega) r hr
  | .ptrE sz h i o, j, hj, r, hr => by
    cases j with
    | zero => simp [reach] at hr
    | succ j => simp only [emb, reach] at hr; exact rows hR H k D hD h j (by omega) r hr
  | .tup _, j, _, r, hr => by cases j <;> simp [emb, reach] at hr
theorem treachL_ok (hR : R.Ok) (H : TH A) (k : Nat) (D : Nat → List Nat) (hD : ∀ h0 cs, trow H h0 = some (.cells cs) → ∀ c ∈ cs, ∀ j, j ≤ k → ∀ r ∈ reach (embH R H) j (emb R c), r ∈ D h0) : ∀ (cs : List (TV A)) (j : Nat), j ≤ k + 1 → ∀ r ∈ (embC R cs).flatMap (reach (embH R H) j), r ∈ treachL D cs
  | [], j, _, r, hr => by simp [embC] at hr
  | c :: cs, j, hj, r, hr => by
    simp only [embC, List.flatMap_cons, List.mem_append] at hr
    simp only [treachL, List.mem_append]
    exact hr.imp (treachV_ok hR H k D hD c j hj r) (treachL_ok hR H k D hD cs j hj r)
theorem rows (hR : R.Ok) (H : TH A) (k : Nat) (D : Nat → List Nat) (hD : ∀ h0 cs, trow H h0 = some (.cells cs) → ∀ c ∈ cs, ∀ j, j ≤ k → ∀ r ∈ reach (embH R H) j (emb R c), r ∈ D h0) (h0 j : Nat) (hj : j ≤ k) (r : Nat)
    (h : r ∈ (h0 :: (match row (embH R H) h0 with | some cs => if hfreeL cs then [] else cs.flatMap (reach (embH R H) j) | none => []))) : r ∈ h0 :: D h0 := by
  rcases List.mem_cons.1 h with h | h
  · exact List.mem_cons.2 (.inl h)
  · refine List.mem_cons.2 (.inr ?_)
    cases ht : trow H h0 with
    | none =>
      have : row (embH R H) h0 = none := by
        unfold trow at ht
        rw [nth_eq] at ht
        unfold row
        rw [embH_get]
        cases hx : H[h0]? with
        | none => rfl
        | some y => cases y with | none => rfl | some z => rw [hx] at ht; cases ht
      rw [this] at h
      simp at h
    | some y =>
      rw [row_emb R ht] at h
      simp only at h
      split at h
      · simp at h
      · rename_i hf
        cases y with
        | arr e xs => exact absurd (hfreeL_flat (hR.free e) xs) hf
        | cells cs =>
          simp only [embR, embC_eq, List.flatMap_map] at h
          obtain ⟨x, hx, hr⟩ := List.mem_flatMap.1 h
          exact hD h0 cs ht x hx j hj r hr
end

theorem treach_ok (hR : R.Ok) (H : TH A) : ∀ (k : Nat) (v : TV A) (j : Nat), j ≤ k + 1 → ∀ r ∈ reach (embH R H) j (emb R v), r ∈ treach H k v := by
  intro k
  induction k with
  | zero =>
    intro v j hj r hr
    refine treachV_ok hR H 0 _ (fun h0 cs _ c _ j hj r hr => ?_) v j hj r hr
    have : j = 0 := by omega
    subst this; simp [reach] at hr
  | succ k ih =>
    intro v j hj r hr
    refine treachV_ok hR H (k + 1) _ (fun h0 cs ht c hc j hj r hr => ?_) v j hj r hr
    simp only [ht]
    exact List.mem_flatMap.2 ⟨c, hc, ih c j hj r hr⟩

mutual
def trigid : TV A → Bool
  | .bool _ | .int _ _ | .str _ | .nilp | .nils | .nilf | .und => true
  | .tup cs => trigidL cs
  | .agg cs => trigidL cs
  | .opt _ v => trigid v
  | _ => false
def trigidL : List (TV A) → Bool
  | [] => true
  | c :: r => trigid c && trigidL r
end

mutual
theorem trigid_emb : ∀ (v : TV A), trigid v = true → rigid (emb R v) = true
  | .bool _, _ => rfl
  | .int _ _, _ => rfl
  | .str _, _ => rfl
  | .nilp, _ => rfl
  | .nils, _ => rfl
  | .nilf, _ => rfl
  | .und, _ => rfl
  | .tup cs, h => by simp only [trigid] at h; simp only [emb, rigid]; exact trigidL_emb cs h
  | .agg cs, h => by simp only [trigid] at h; simp only [emb, rigid]; exact trigidL_emb cs h
  | .opt g v, h => by
    simp only [trigid] at h
    simp only [emb]
    cases g
    · rfl
    · exact trigid_emb v h
  | .dead, h => by simp [trigid] at h
  | .pel _, h => by simp [trigid] at h
  | .lst _ _, h => by simp [trigid] at h
  | .ptr _ _, h => by simp [trigid] at h
  | .ptrE _ _ _ _, h => by simp [trigid] at h
  | .sl _ _ _ _, h => by simp [trigid] at h
  | .sla _ _ _ _, h => by simp [trigid] at h
  | .fn _ _, h => by simp [trigid] at h
theorem trigidL_emb : ∀ (cs : List (TV A)), trigidL cs = true → rigidL (embC R cs) = true
  | [], _ => rfl
  | c :: r, h => by
    simp only [trigidL, Bool.and_eq_true] at h
    simp only [embC, rigidL, Bool.and_eq_true]
    exact ⟨trigid_emb c h.1, trigidL_emb r h.2⟩
end

/-- A call of a function that only reads and whose value says all of itself. -/
theorem TDr.call (E : Env A R P τ fl) {s : SO} {r : List SO} {F : TF A} {H : TH A} {K : List DA → TF A → TH A → Prop} {f : Nat} {as as0 : List (TV A)} {p : List Prop} {v : TV A} {Q' : TV A → TH A → Prop} (hg : tgate F s.g = true) (hs : tcallD F s = some (f, as))
    (ha : ((as.map (tsnap R H 3)).flatMap (·.1), (as.map (tsnap R H 3)).map (·.2)) = (p, as0)) (hp : Conj p) (hc : TC R P f as0 [] Q') (hv : ∀ x X, Q' x X → x = v) (hr : trigid v = true)
    (hb : (as.flatMap (treach H 2)).all (Nat.blt · H.length) = true)
    (k : TDr R P r (tlput s.dst v F) H (fun cs => K (⟨s.dst, emb R v, [], guardSlot s.g ++ slotsOf s.op, as.flatMap (treach H 2), []⟩ :: cs))) : TDr R P (s :: r) F H K := by
  obtain ⟨rfl, rfl⟩ := Prod.mk.inj ha
  obtain ⟨g, args, tys, cap, hop, hgv, hu, hargs⟩ := tcallD_ok (R := R) hs
  have hc2 : LC P f ((args.toList.map (evalO (embF R F)) ++ cap).map (snap (embH R H) 3)) [] fun x G => x = emb R v := by
    rw [hargs]
    refine LC.mono (LC.args ?_ ?_ hc) fun x G ⟨y, X, q, e1, e2⟩ => by rw [e1, hv y X q]
    · simp [embC_length]
    · intro i h1 h2
      have hi : i < as.length := by rw [embC_length] at h1; simpa using h1
      have := tsnap_ok R E.ok H 3 as[i] (Conj.flat hp _ (List.mem_map.2 ⟨as[i], List.getElem_mem hi, rfl⟩))
      simpa [embC_eq] using this
  have hf := SFact.quiet (tgate_ok hg) hop hgv hu hc2 (fun y G e => e) (trigid_emb v hr)
  refine TDr.cons (x := v) (ws := []) (e := 0) (c := ⟨s.dst, emb R v, [], guardSlot s.g ++ slotsOf s.op, as.flatMap (treach H 2), []⟩) (hf.more rfl rfl rfl rfl (fun t ht => ht) (fun q hq => ?_)) rfl rfl hb rfl (fun x hx => by simp at hx) (by simpa [tapply] using k)
  rw [hargs] at hq
  simp only [embC_eq, List.flatMap_map] at hq
  obtain ⟨x, hx, hr'⟩ := List.mem_flatMap.1 hq
  exact List.mem_flatMap.2 ⟨x, hx, treach_ok E.ok H 2 x 3 (by omega) q hr'⟩

end
end Go.Lite

namespace Go.Lite
/-! ### Tables -/
def lookT {β : Type} (l : List (Nat × β)) (d : Nat → Option β) (t : Nat) : Option β :=
  match l with
  | [] => d t
  | (s, x) :: r => cond (Nat.beq s t) (some x) (lookT r d t)
def lookN (l : List (Nat × Nat)) (d : Nat → Nat) (t : Nat) : Nat :=
  match l with
  | [] => d t
  | (s, x) :: r => cond (Nat.beq s t) x (lookN r d t)
def okL {β : Type} (d : Nat → Option β) : List (Nat × β) → Prop
  | [] => True
  | (s, x) :: r => d s = some x ∧ okL d r
def okN (d : Nat → Nat) : List (Nat × Nat) → Prop
  | [] => True
  | (s, x) :: r => d s = x ∧ okN d r
theorem lookT_eq {β : Type} {d : Nat → Option β} : ∀ {l : List (Nat × β)}, okL d l → lookT l d = d
  | [], _ => rfl
  | (s, x) :: r, h => by
    funext t
    simp only [lookT]
    cases hb : Nat.beq s t with
    | true => rw [← Nat.eq_of_beq_eq_true hb, h.1]; rfl
    | false => simp only [cond_false]; rw [lookT_eq h.2]
theorem lookN_eq {d : Nat → Nat} : ∀ {l : List (Nat × Nat)}, okN d l → lookN l d = d
  | [], _ => rfl
  | (s, x) :: r, h => by
    funext t
    simp only [lookN]
    cases hb : Nat.beq s t with
    | true => rw [← Nat.eq_of_beq_eq_true hb, h.1]; rfl
    | false => simp only [cond_false]; rw [lookN_eq h.2]
end Go.Lite
set_option linter.unusedVariables false
set_option linter.unusedSimpArgs false

/- Lite, part Z: loops over functions: the statement, and the calls that ask for a round. -/
namespace Go.Lite
open Go Go.RowKit
set_option linter.unusedVariables false

def putPs : List Nat → List LV → Fr → Fr
  | p :: ps, v :: vs, F => putPs ps vs (fset F p v)
  | _, _, F => F

theorem foldl_ps {w : World} {per : Nat → Prop} {ι : Pl} : ∀ (ps : List Nat) (xs : List LV) (vs : List Value) (F : Fr) (T : Array Value), xs.length = ps.length → VL w ι per xs vs → (∀ p ∈ ps, p < T.size) → (∀ t, VR w per ι (fget F t) (T.getD t undef)) →
    ((ps.zip vs).foldl (fun (t : Array Value) (p : Nat × Value) => t.setIfInBounds p.1 p.2) T).size = T.size ∧ ∀ t, VR w per ι (fget (putPs ps xs F) t) (((ps.zip vs).foldl (fun (t : Array Value) (p : Nat × Value) => t.setIfInBounds p.1 p.2) T).getD t undef) := by
  intro ps
  induction ps with
  | nil => intro xs vs F T hl _ _ hF; cases xs <;> exact ⟨rfl, hF⟩
  | cons p ps ih =>
    intro xs vs F T hl hv hp hF
    cases xs with
    | nil => cases hl
    | cons x xs =>
      cases vs with
      | nil => cases hv.1
      | cons v vs =>
        have hx := hv.2 0 (by simp)
        simp only [List.getElem_cons_zero, List.getD_cons_zero] at hx
        have hr : VL w ι per xs vs := ⟨by simpa using hv.1, fun i hi => by have := hv.2 (i + 1) (by simpa using hi); simpa using this⟩
        have hpl := hp p (List.mem_cons_self ..)
        have := ih xs vs (fset F p x) (T.setIfInBounds p v) (by simpa using hl) hr (fun q hq => by simpa using hp q (List.mem_cons_of_mem _ hq)) fun t => ?_
        · simp only [List.zip_cons_cons, List.foldl_cons, putPs]
          exact ⟨by simpa using this.1, this.2⟩
        · rw [fget_fset]
          by_cases h : p = t
          · subst h
            rw [if_pos rfl]
            have : (T.setIfInBounds p v).getD p undef = v := by simp [hpl]
            rw [this]; exact hx
          · rw [if_neg h]
            have : (T.setIfInBounds p v).getD t undef = T.getD t undef := by
              simp only [Array.getD_eq_getD_getElem?, Array.getElem?_setIfInBounds]
              rw [if_neg h]
            rw [this]; exact hF t

section
variable {P : Program} {N : Dim} {Q : LPost} {F : Fr} {H : Hp}

/-- The statement: the function's contract, at a loop whose slots are these. -/
theorem lwp_rangeFunc {g : Operand} {ps : Array Nat} {assign body : Code} {f : Nat} {cap : List LV} (hrd : N.rd = false) (hu : isUnd cap = false) (hg : evalO F g = .fn f cap)
    (h : ∀ y : YY, y.n = N.n → y.ps = ps.toList → y.assign = assign → y.body = body → y.F = F → LCY P f (some y) (.yld y.l :: cap) H (fun _ H' => Q .normal F H')) : Lwp P N (.rangeFunc g ps assign body) Q F H := by
  intro cx a w hs
  obtain ⟨ι, per, hst⟩ := hs.st
  have hro : (fen cx).round = none := hst.defers.2.2.1 hrd
  have hgv := hst.fr.eval g
  rw [hg] at hgv
  generalize hgg : a.eval g = gv at hgv
  cases hgv with
  | @fn _ _ _ vs hn hv =>
    rw [fnV_off hu] at hgg
    refine wpIn_rangeFunc fun fn hfn => ?_
    rw [hro]
    obtain ⟨y, hy⟩ : ∃ y : YY, y = { l := w.heap.size + 1, fn := fn, n := N.n, ps := ps.toList, assign := assign, body := body, D := w.heap.size, F := F } := ⟨_, rfl⟩
    have hc := h y (by rw [hy]) (by rw [hy]) (by rw [hy]) (by rw [hy]) (by rw [hy])
    obtain ⟨W1, hW1⟩ : ∃ W1, (w.alloc (.deferred (some []))).alloc (.loop (y.lp a.tmps)) = W1 := ⟨_, rfl⟩
    have hL1 : W1.heap[w.heap.size + 1]? = some (.loop (y.lp a.tmps)) := by
      rw [← hW1]; have := World.alloc_heap_new (w.alloc (.deferred (some []))) (.loop (y.lp a.tmps)); rwa [World.size_alloc] at this
    have hD1 : W1.heap[w.heap.size]? = some (.deferred (some [])) := by
      rw [← hW1]; exact (Below.heap_alloc _ _ _ (by simp)).trans (World.alloc_heap_new w _)
    have hsz1 : W1.heap.size = w.heap.size + 2 := by rw [← hW1]; simp
    have old1 : ∀ b, b < w.heap.size → W1.heap[b]? = w.heap[b]? := fun b hb => by
      rw [← hW1]; exact (Below.heap_alloc _ _ _ (by simp; omega)).trans (Below.heap_alloc _ _ _ hb)
    have sc1 : SameCells w W1 := fun b c e fz hb => (old1 b (lt_of_get hb)).trans hb
    have keep1 : ∀ kp : Nat → Prop, (∀ b, kp b → b < w.heap.size) → Kept kp w W1 := fun kp hk =>
      ⟨by rw [← hW1]; rfl, by rw [← hW1]; rfl, by rw [← hW1]; rfl, by omega, ⟨fun b hb => old1 b (hk b hb), fun b n hr => sc1.room hr⟩, fun b o hb _ => (old1 b (lt_of_get hb)).trans hb, by rw [← hW1]; exact Nat.le_refl _⟩
    have henter : (callFunc f (#[.func (.yield (w.heap.size + 1)) #[] #[]] ++ vs.toArray)).run P W1 = .ok (.enter f (#[.func (.yield (w.heap.size + 1)) #[] #[]] ++ vs.toArray)) W1 := by
      have hcal := hc.1
      unfold callable at hcal
      split at hcal
      · rename_i fn hfn
        simp only [Bool.and_eq_true, Bool.not_eq_eq_eq_not, Bool.not_true] at hcal
        simp only [callFunc, Sem.run_bind, run_program, Result.andThen_ok, hfn, hcal.1, hcal.2, Bool.false_eq_true, if_false, Sem.run_pure]
      · cases hcal
    refine ⟨w.heap.size + 1, [{ target := .collected w.heap.size, args := #[] }], W1, { target := .fn (.func f) vs.toArray, args := #[.func (.yield (w.heap.size + 1)) #[] #[]] }, W1, f,
      #[.func (.yield (w.heap.size + 1)) #[] #[]] ++ vs.toArray, W1, ?_, ?_, fun _ _ => trivial, ?_, fun hd => (by cases hd), ?_⟩
    · rw [← hW1]
      have := run_enterLoop_outer (P := P) (w := w) fn a.tmps ps assign body
      rw [this]
      congr 3
      rw [hy]; simp [YY.lp]
    · simp only [resolve, hgg]
      simp [go_sem]
    · show (callFunc f _).run P W1 = _
      exact henter
    · have hrep : Rep (fun b => cx.kp b ∨ per b) W1 ι per H := by
        refine Rep.nc sc1 (by omega) ⟨hst.rep.len, hst.rep.perlt, fun k cs hh => ?_, hst.rep.inj⟩
        rcases hst.rep.live k cs hh with h1 | ⟨b, o, c, e, h1, h2, h3, h4⟩
        · exact .inl h1
        · exact .inr ⟨b, o, c, e, h1, fun hp => hp.elim h2 h3, h3, h4⟩
      have hvl : VL W1 ι per (.yld y.l :: cap) (.func (.yield (w.heap.size + 1)) #[] #[] :: vs) := by
        refine ⟨by simp [hn], fun i hi => ?_⟩
        cases i with
        | zero => rw [hy]; exact .yld _
        | succ i => simpa using (hv i (by simpa using hi)).nc sc1
      have hcalls := hc.2 (fun b => cx.kp b ∨ per b) per ι W1 _ hrep (fun b hb => Nat.lt_of_lt_of_le (hb.elim (hst.bs b) (hst.rep.perlt b)) (by omega)) (fun b hb => .inr hb)
        (fun z hz => by
          obtain rfl := Option.some.inj hz
          exact ⟨fun b hb => .inr hb, a.tmps, by rw [hy] at hL1 ⊢; exact hL1, by rw [hy]; exact hst.size, fun t => by rw [hy]; exact (hst.fr t).nc sc1⟩) hvl
      have e1 : (.func (.yield (w.heap.size + 1)) #[] #[] :: vs : List Value).toArray = #[.func (.yield (w.heap.size + 1)) #[] #[]] ++ vs.toArray := by apply Array.ext'; simp
      rw [e1] at hcalls
      refine CallsIn.mono ((callsIn_wide (n := 0)).2 hcalls) fun e w' ⟨v, res, H', ι', per', he, q, g3, g4, g5, g6, g7, g8⟩ => ?_
      subst he
      have hl' : w'.heap[w.heap.size + 1]? = some (.loop (y.lp a.tmps)) := g3.oth _ _ hL1 rfl
      have hD' : w'.heap[w.heap.size]? = some (.deferred (some [])) := g3.oth _ _ hD1 rfl
      refine ⟨none, _, run_endLoop hl' (by rw [hy]; simp [YY.lp]), ?_⟩
      have hk1 : Kept cx.kp w w' := (keep1 cx.kp hst.bs).trans (g3.mono fun b hb => .inl hb)
      have hk2 : Kept cx.kp w (w'.putObj (w.heap.size + 1) (.loop { y.lp a.tmps with state := .exhausted })) := hk1.put hl' rfl (by omega) (fun hb => by have := hst.bs _ hb; omega) _
      have sc2 : SameCells w' (w'.putObj (w.heap.size + 1) (.loop { y.lp a.tmps with state := .exhausted })) := SameCells.putObj hl' rfl _
      have hp2 : ∀ kp : Nat → Prop, (∀ b, kp b → b < w.heap.size) → Kept (fun b => cx.kp b ∨ per b) W1 w' → (∀ b, kp b → cx.kp b ∨ per b) → Kept kp w (w'.putObj (w.heap.size + 1) (.loop { y.lp a.tmps with state := .exhausted })) := fun kp hk g hsub =>
        ((keep1 kp hk).trans (g.mono hsub)).put hl' rfl (by omega) (fun hb => by have := hk _ hb; omega) _
      refine ⟨F, H', q, SR.of (ι := ι') (per := per') ⟨(g4.weaken fun b hb => .inl hb).nc sc2 (by simp), fun b hb => ?_, fun b hb => g7 b (hst.p2 b hb), fun t => ?_, hst.size, ?_, hst.below.trans hk2, fun b hb => ?_, hst.grow.1, fun k hk => ?_⟩⟩
      · rcases g6 b hb with h1 | h1
        · exact hst.p1 b h1
        · exact .inr fun hp => h1 (.inl hp)
      · refine (hst.fr t).step (hp2 per hst.rep.perlt g3 fun b hb => .inr hb).step g7 fun k b hb => ?_
        have hl : k < ι.length := by
          rcases Nat.lt_or_ge k ι.length with h' | h'
          · exact h'
          · simp [List.getElem?_eq_none h'] at hb
        rw [g8 k hl]; exact hb
      · obtain ⟨⟨Ds, hd, hnd, hDs⟩, h2, h3, h4⟩ := hst.defers
        refine ⟨⟨w.heap.size :: Ds, by simp [hd], List.nodup_cons.2 ⟨fun hm => by have := lt_of_get (hDs _ hm).2.2; omega, hnd⟩, fun D hD => ?_⟩, fun hr => (by rw [hrd] at hr; cases hr), h3, h4⟩
        rcases List.mem_cons.1 hD with rfl | hD
        · exact ⟨hst.below.size, fun hb => by have := hst.bs _ hb; omega, by rw [World.putObj_heap_other (by omega)]; exact hD'⟩
        · obtain ⟨k1, k2, k3⟩ := hDs D hD
          refine ⟨k1, k2, ?_⟩
          have := lt_of_get k3
          rw [World.putObj_heap_other (by omega)]
          exact g3.oth _ _ ((old1 D this).trans k3) rfl
      · exact Nat.lt_of_lt_of_le (hst.bs b hb) hk2.size
      · rw [g8 k (Nat.lt_of_lt_of_le hk hst.mle)]
        exact hst.grow.2 k hk

/-- What is to be shown of a round: the loop's variables, then the body. -/
def YRound (P : Program) (y : YY) (args : List LV) (H : Hp) (K : Hp → Prop) : Prop :=
  Lwp P ⟨y.n, H.length, true, none⟩ y.assign (fun e F1 H1 => e = .normal ∧ Lwp P ⟨y.n, H.length, true, none⟩ y.body (fun e _ H2 => e = .normal ∧ K H2) F1 H1) (putPs y.ps args y.F) H

/-- A round is asked for. -/
theorem OpsW.yld {o : SO} {r : List SO} {K : Fr → Hp → Prop} {g : Operand} {args : Array Operand} {tys : Array TypeId} {y : YY} (hw : wantS o.g F = some true) (hop : o.op = .call ⟨.value g, args, tys⟩) (hg : evalO F g = .yld y.l) (hy : N.y = some y)
    (hn : args.size = y.ps.length) (hps : y.ps.all (fun p => decide (p < y.n)) = true)
    (h : YRound P y (args.toList.map (evalO F)) H fun H' => OpsW P N r K (lput o.dst (.bool true) F) H') : OpsW P N (o :: r) K F H := by
  intro ops l0 hs hd cx a w hsr
  obtain ⟨o', l1, rfl, hs1, e1, e2, e3⟩ := slim_cons hs
  obtain ⟨hd1, hd2⟩ := dsts_cons hd
  obtain ⟨ι, per, hst⟩ := hsr.st
  refine wpListIn_step fun C hC => ?_
  rw [wanted_sound hst (by rw [e3]; exact hw)]
  simp only [if_true]
  obtain ⟨hper0, T, hrec0, hTs, hTv⟩ := hst.defers.2.2.2 y hy
  have hrec : w.heap[y.l]? = some (.loop (y.lp T)) := hst.below.oth _ _ hrec0 rfl
  have hT : ∀ t, VR w per ι (fget y.F t) (T.getD t undef) := fun t => (hTv t).step ⟨fun b hb => hst.below.step.same b (hper0 b hb), hst.below.step.room⟩ hst.p2 fun k b hb => by
    have hl : k < cx.ι0.length := by
      rcases Nat.lt_or_ge k cx.ι0.length with h' | h'
      · exact h'
      · simp [List.getElem?_eq_none h'] at hb
    rw [hst.grow.2 k (by rw [← hst.grow.1]; exact hl)]; exact hb
  have hgv := hst.fr.eval g
  rw [hg] at hgv
  generalize hgg : a.eval g = gv at hgv
  cases hgv with
  | yld _ =>
  have hvl := evalL hst.fr args.toList
  have hop' : o'.op = .call ⟨.value g, args, tys⟩ := e2.trans hop
  have hyl := run_yield (P := P) (args := args.map a.eval) hrec (by simp [YY.lp, hn])
  have hrun : (execOp a.eval o').run P w = .ok (.round y.l y.fn (((y.ps.zip (args.toList.map a.eval)).foldl (fun (t : Array Value) (p : Nat × Value) => t.setIfInBounds p.1 p.2) T)) y.assign y.body) w := by
    obtain ⟨dst, op, ty, pos, after, guard⟩ := o'
    simp only at hop'
    subst hop'
    simp only [execOp, resolve, hgg, Deferred.ofValue, Sem.run_bind, Sem.run_pure, Result.andThen_ok, invoke]
    have e : (#[] ++ args.map a.eval : Array Value) = args.map a.eval := by simp
    rw [e, hyl]
    simp only [YY.lp]
    congr 2
    rw [← Array.foldl_toList]
    simp
  have hlen : (args.toList.map (evalO F)).length = y.ps.length := by simp [hn]
  obtain ⟨hsz, hfr⟩ := foldl_ps y.ps (args.toList.map (evalO F)) (args.toList.map a.eval) y.F T hlen hvl (fun p hp => by rw [hTs]; simpa using List.all_eq_true.1 hps p hp) hT
  refine runIn (fun c hc => by rw [hop'] at hc; cases hc) hrun ?_
  rw [Oper.uponIn_round]
  refine ⟨fun hd => (by cases hd), roundIn_of_wpIn trivial ?_⟩
  let kp' : Nat → Prop := fun b => cx.kp b ∨ per b
  have kplt : ∀ b, kp' b → b < w.heap.size := fun b hb => hb.elim (hst.bs b) (hst.rep.perlt b)
  have hrep : Rep kp' w ι per H := ⟨hst.rep.len, hst.rep.perlt, fun k cs hh => by
    rcases hst.rep.live k cs hh with h1 | ⟨b, o, c, e, h1, h2, h3, h4⟩
    · exact .inl h1
    · exact .inr ⟨b, o, c, e, h1, fun hp => hp.elim h2 h3, h3, h4⟩, hst.rep.inj⟩
  have hs0 : SR ⟨kp', per, w, ι, some y.l⟩ ⟨y.n, H.length, true, none⟩ (putPs y.ps (args.toList.map (evalO F)) y.F) H { tmps := ((y.ps.zip (args.toList.map a.eval)).foldl (fun (t : Array Value) (p : Nat × Value) => t.setIfInBounds p.1 p.2) T), defers := [] } w :=
    ⟨ι, per, hrep, fun b hb => .inl hb, fun b hb => hb, hfr, hsz.trans hTs, .none' (fun e => by cases e), .refl _ _, kplt, hst.rep.len, fun _ _ => rfl⟩
  refine wpIn_mono (h ⟨kp', per, w, ι, some y.l⟩ _ w hs0) fun e a1 w1 ⟨F1, H1, ⟨he, hbody⟩, hsr1⟩ => ?_
  subst he
  obtain ⟨ι1, per1, hst1⟩ := hsr1.st
  have hrec1 : w1.heap[y.l]? = some (.loop (y.lp T)) := hst1.below.oth _ _ hrec rfl
  refine ⟨_, run_beginRound hrec1 rfl, ?_⟩
  obtain ⟨wb, hwb⟩ : ∃ wb, wb = w1.putObj y.l (.loop { y.lp T with state := .busy }) := ⟨_, rfl⟩
  rw [← hwb]
  have hyl1 := lt_of_get hrec1
  have scb : SameCells w1 wb := by rw [hwb]; exact SameCells.putObj hrec1 rfl _
  have szb : wb.heap.size = w1.heap.size := by rw [hwb]; simp
  have hrecb : wb.heap[y.l]? = some (.loop { y.lp T with state := .busy }) := by rw [hwb]; exact World.putObj_heap_same hyl1
  have othb : ∀ b, b ≠ y.l → wb.heap[b]? = w1.heap[b]? := fun b hb => by rw [hwb]; exact World.putObj_heap_other hb
  have hsb : SR ⟨kp', per, wb, ι, some y.l⟩ ⟨y.n, H.length, true, none⟩ F1 H1 a1 wb :=
    ⟨ι1, per1, hst1.rep.nc scb (by omega), hst1.p1, hst1.p2, fun t => (hst1.fr t).nc scb, hst1.size, by rw [hst1.defers.2.1 rfl]; exact .none' (fun e => by cases e), .refl _ _,
      fun b hb => by rw [szb]; exact hst1.bs b hb, hst1.grow⟩
  refine wpIn_mono (hbody ⟨kp', per, wb, ι, some y.l⟩ a1 wb hsb) fun e a2 w2 ⟨F2, H2, ⟨he, hK⟩, hsr2⟩ => ?_
  subst he
  obtain ⟨ι2, per2, hst2⟩ := hsr2.st
  have hrec2 : w2.heap[y.l]? = some (.loop { y.lp T with state := .busy }) := hst2.below.oth _ _ hrecb rfl
  refine ⟨_, _, run_endRound none hrec2, ?_⟩
  obtain ⟨w3, hw3⟩ : ∃ w3, w3 = w2.putObj y.l (.loop (y.lp T)) := ⟨_, rfl⟩
  show C (a.put o'.dst (.bool true)) (w2.putObj y.l (.loop (y.lp T)))
  rw [← hw3]
  have hyl2 := lt_of_get hrec2
  have sc3 : SameCells w2 w3 := by rw [hw3]; exact SameCells.putObj hrec2 rfl _
  have sz3 : w3.heap.size = w2.heap.size := by rw [hw3]; simp
  have hrec3 : w3.heap[y.l]? = some (.loop (y.lp T)) := by rw [hw3]; exact World.putObj_heap_same hyl2
  have oth3 : ∀ b, b ≠ y.l → w3.heap[b]? = w2.heap[b]? := fun b hb => by rw [hw3]; exact World.putObj_heap_other hb
  have k01 := hst1.below
  have kb2 := hst2.below
  have hk : Kept kp' w w3 := by
    refine ⟨?_, ?_, ?_, ?_, ⟨fun b hb => ?_, fun b n hr => ?_⟩, fun b o hb ho => ?_, ?_⟩
    · rw [show w3.os = w2.os by rw [hw3]; rfl, kb2.os, show (wb).os = w1.os by rw [hwb]; rfl]; exact k01.os
    · rw [show w3.tape = w2.tape by rw [hw3]; rfl, kb2.tape, show (wb).tape = w1.tape by rw [hwb]; rfl]; exact k01.tape
    · rw [show w3.output = w2.output by rw [hw3]; rfl, kb2.output, show (wb).output = w1.output by rw [hwb]; rfl]; exact k01.output
    · have h1 := k01.size; have h2 := kb2.size; simp only at h1 h2; omega
    · by_cases e : b = y.l
      · subst e; rw [hrec3, hrec]
      · rw [oth3 b e, kb2.step.same b hb, othb b e]; exact k01.step.same b hb
    · exact sc3.room (kb2.step.room _ _ (scb.room (k01.step.room _ _ hr)))
    · by_cases e : b = y.l
      · subst e; rw [hrec] at hb; rw [hrec3]; exact hb
      · rw [oth3 b e]
        refine kb2.oth b o ?_ ho
        rw [othb b e]; exact k01.oth b o hb ho
    · have e1 : w3.drawn = w2.drawn := by rw [hw3]; rfl
      have e2 : wb.drawn = w1.drawn := by rw [hwb]; rfl
      have h1 := k01.drawn; have h2 := kb2.drawn; simp only at h1 h2; omega
  have hkc : Kept cx.kp w w3 := hk.mono fun b hb => .inl hb
  have hst3 : ST cx N ι2 per2 F H2 a w3 := by
    refine ⟨(hst2.rep.nc sc3 (by omega)).weaken fun b hb => .inl hb, fun b hb => ?_, fun b hb => hst2.p2 b (hst.p2 b hb), fun t => ?_, hst.size, hst.defers.keep hkc, hst.below.trans hkc, fun b hb => Nat.lt_of_lt_of_le (hst.bs b hb) hkc.size, hst.grow.1, fun k hk => ?_⟩
    · rcases hst2.p1 b hb with h1 | h1
      · exact hst.p1 b h1
      · exact .inr fun hp => h1 (.inl hp)
    · refine (hst.fr t).step ⟨fun b hb => hk.step.same b (.inr hb), hk.step.room⟩ hst2.p2 fun k b hb => ?_
      have hl : k < H.length := by
        rw [← hst.rep.len]
        rcases Nat.lt_or_ge k ι.length with h' | h'
        · exact h'
        · simp [List.getElem?_eq_none h'] at hb
      rw [hst2.grow.2 k hl]; exact hb
    · rw [hst2.grow.2 k (by show k < H.length; rw [← hst.rep.len]; exact Nat.lt_of_lt_of_le hk hst.mle)]
      exact hst.grow.2 k hk
  refine hC _ _ (hK ops l1 hs1 hd2 cx _ _ ?_)
  rw [← e1]
  exact .of (hst3.put hd1 (.bool true))

end
end Go.Lite
