/- Lite, part TG: rows renamed, forgotten, shown and frozen, on typed values. -/
import Derived.Test.YthmjeeamomfifaaLiteTF
namespace Go.Lite
open Go Go.RowKit
set_option linter.unusedVariables false

theorem ren_free (g : Nat → Nat) (x : LV) (hx : hfree x = true) : ren g x = x := by
  have key : ∀ (n : Nat) (g : Nat → Nat) (x : LV), SizeOf.sizeOf x < n → hfree x = true → ren g x = x := by
    intro n
    induction n with
    | zero => intro g x h; omega
    | succ n ih =>
      intro g x hs hx
      have keyL : ∀ (cs : List LV), SizeOf.sizeOf cs < n → hfreeL cs = true → renL g cs = cs := by
        intro cs hcs hf
        rw [renL_eq]
        have : ∀ c ∈ cs, ren g c = c := fun c hc => by
          obtain ⟨i, hi, rfl⟩ := List.getElem_of_mem hc
          have := List.sizeOf_lt_of_mem hc
          exact ih g _ (by omega) (hfreeL_get hf i hi)
        rw [List.map_congr_left this]; simp
      cases x <;> simp only [hfree, reduceCtorEq] at hx <;> simp only [ren]
      · rw [keyL _ (by simp at hs; omega) hx]
      · rw [keyL _ (by simp at hs; omega) hx]
      · rw [keyL _ (by simp at hs; omega) hx]
  exact key _ g x (Nat.lt_succ_self _) hx

theorem hfreeL_flat {α : Type} {f : α → List LV} (h : ∀ a, hfreeL (f a) = true) (xs : List α) : hfreeL (xs.flatMap f) = true := by
  have app : ∀ (a b : List LV), hfreeL a = true → hfreeL b = true → hfreeL (a ++ b) = true := by
    intro a
    induction a with
    | nil => intro b _ hb; exact hb
    | cons c r ih =>
      intro b ha hb
      simp only [hfreeL, Bool.and_eq_true, List.cons_append] at *
      exact ⟨ha.1, ih b ha.2 hb⟩
  induction xs with
  | nil => rfl
  | cons x r ih => rw [List.flatMap_cons]; exact app _ _ (h x) ih

theorem renL_free (g : Nat → Nat) {cs : List LV} (h : hfreeL cs = true) : renL g cs = cs := by
  rw [renL_eq]
  have : ∀ c ∈ cs, ren g c = c := fun c hc => by
    obtain ⟨i, hi, rfl⟩ := List.getElem_of_mem hc
    exact ren_free g _ (hfreeL_get h i hi)
  rw [List.map_congr_left this]; simp

section
variable {A : Nat → Type} (R : Reg A)

mutual
def tren (g : Nat → Nat) : TV A → TV A
  | .ptr h o => .ptr (g h) o
  | .ptrE sz h i o => .ptrE sz (g h) i o
  | .sl sz h o n => .sl sz (g h) o n
  | .sla sz h o n => .sla sz (g h) o n
  | .fn f cs => .fn f (trenL g cs)
  | .agg cs => .agg (trenL g cs)
  | .tup cs => .tup (trenL g cs)
  | .opt b v => .opt b (tren g v)
  | .dead => .dead
  | .und => .und
  | .bool b => .bool b
  | .int k n => .int k n
  | .str s => .str s
  | .nilp => .nilp
  | .nils => .nils
  | .nilf => .nilf
  | .pel cs => .pel cs
  | .lst e xs => .lst e xs
def trenL (g : Nat → Nat) : List (TV A) → List (TV A)
  | [] => []
  | c :: r => tren g c :: trenL g r
end

mutual
theorem tren_emb (g : Nat → Nat) : ∀ (v : TV A), emb R (tren g v) = ren g (emb R v)
  | .ptr _ _ => rfl
  | .ptrE _ _ _ _ => rfl
  | .sl _ _ _ _ => rfl
  | .sla _ _ _ _ => rfl
  | .fn f cs => by simp only [tren, emb, ren]; rw [trenL_emb g cs]
  | .agg cs => by simp only [tren, emb, ren]; rw [trenL_emb g cs]
  | .tup cs => by simp only [tren, emb, ren]; rw [trenL_emb g cs]
  | .opt b v => by
    simp only [tren, emb]
    cases b
    · rfl
    · exact tren_emb g v
  | .dead => rfl
  | .und => rfl
  | .bool _ => rfl
  | .int _ _ => rfl
  | .str _ => rfl
  | .nilp => rfl
  | .nils => rfl
  | .nilf => rfl
  | .pel _ => rfl
  | .lst _ _ => rfl
theorem trenL_emb (g : Nat → Nat) : ∀ (cs : List (TV A)), embC R (trenL g cs) = renL g (embC R cs)
  | [] => rfl
  | c :: r => by simp only [trenL, embC, renL]; rw [tren_emb g c, trenL_emb g r]
end

def trenR (g : Nat → Nat) : Option (TRow A) → Option (TRow A)
  | none => none
  | some (.cells cs) => some (.cells (trenL g cs))
  | some (.arr e xs) => some (.arr e xs)

theorem trenR_emb (hR : R.Ok) (g : Nat → Nat) (r : Option (TRow A)) : embO R (trenR g r) = renR g (embO R r) := by
  cases r with
  | none => rfl
  | some r =>
    cases r with
    | cells cs => simp only [trenR, embO, embR, renR, trenL_emb]
    | arr e xs => simp only [trenR, embO, embR, renR, renL_free g (hfreeL_flat (hR.free e) xs)]

def trenH (g : Nat → Nat) : TH A → TH A
  | [] => []
  | r :: H => trenR g r :: trenH g H
theorem trenH_emb (hR : R.Ok) (g : Nat → Nat) (H : TH A) : embH R (trenH g H) = (embH R H).map (renR g) := by
  induction H with
  | nil => rfl
  | cons r H ih => simp only [trenH, embH, List.map_cons, trenR_emb R hR, ih]

mutual
def thfree : TV A → Bool
  | .ptr _ _ | .ptrE _ _ _ _ | .sl _ _ _ _ | .sla _ _ _ _ => false
  | .fn _ cs => thfreeL cs
  | .agg cs => thfreeL cs
  | .tup cs => thfreeL cs
  | .opt _ v => thfree v
  | .dead | .und | .bool _ | .int _ _ | .str _ | .nilp | .nils | .nilf | .pel _ | .lst _ _ => true
def thfreeL : List (TV A) → Bool
  | [] => true
  | c :: r => thfree c && thfreeL r
end

mutual
theorem thfree_emb : ∀ (v : TV A), thfree v = true → hfree (emb R v) = true
  | .ptr _ _, h => by simp [thfree] at h
  | .ptrE _ _ _ _, h => by simp [thfree] at h
  | .sl _ _ _ _, h => by simp [thfree] at h
  | .sla _ _ _ _, h => by simp [thfree] at h
  | .fn f cs, h => by simp only [thfree] at h; simp only [emb, hfree]; exact thfreeL_emb cs h
  | .agg cs, h => by simp only [thfree] at h; simp only [emb, hfree]; exact thfreeL_emb cs h
  | .tup cs, h => by simp only [thfree] at h; simp only [emb, hfree]; exact thfreeL_emb cs h
  | .opt b v, h => by
    simp only [thfree] at h
    simp only [emb]
    cases b
    · rfl
    · exact thfree_emb v h
  | .dead, _ => rfl
  | .und, _ => rfl
  | .bool _, _ => rfl
  | .int _ _, _ => rfl
  | .str _, _ => rfl
  | .nilp, _ => rfl
  | .nils, _ => rfl
  | .nilf, _ => rfl
  | .pel _, _ => rfl
  | .lst _ _, _ => rfl
theorem thfreeL_emb : ∀ (cs : List (TV A)), thfreeL cs = true → hfreeL (embC R cs) = true
  | [], _ => rfl
  | c :: r, h => by
    simp only [thfreeL, Bool.and_eq_true] at h
    simp only [embC, hfreeL, Bool.and_eq_true]
    exact ⟨thfree_emb c h.1, thfreeL_emb r h.2⟩
end

mutual
/-- It holds no plain memory. -/
def tpfree : TV A → Bool
  | .pel _ | .lst _ _ => false
  | .fn _ cs => tpfreeL cs
  | .agg cs => tpfreeL cs
  | .tup cs => tpfreeL cs
  | .opt _ v => tpfree v
  | _ => true
def tpfreeL : List (TV A) → Bool
  | [] => true
  | c :: r => tpfree c && tpfreeL r
end

mutual
theorem tpfree_emb : ∀ (v : TV A), tpfree v = true → psfree (emb R v) = true
  | .pel _, h => by simp [tpfree] at h
  | .lst _ _, h => by simp [tpfree] at h
  | .fn f cs, h => by simp only [tpfree] at h; simp only [emb, psfree]; exact tpfreeL_emb cs h
  | .agg cs, h => by simp only [tpfree] at h; simp only [emb, psfree]; exact tpfreeL_emb cs h
  | .tup cs, h => by simp only [tpfree] at h; simp only [emb, psfree]; exact tpfreeL_emb cs h
  | .opt b v, h => by
    simp only [tpfree] at h
    simp only [emb]
    cases b
    · rfl
    · exact tpfree_emb v h
  | .dead, _ => rfl
  | .und, _ => rfl
  | .bool _, _ => rfl
  | .int _ _, _ => rfl
  | .str _, _ => rfl
  | .nilp, _ => rfl
  | .nils, _ => rfl
  | .nilf, _ => rfl
  | .ptr _ _, _ => rfl
  | .ptrE _ _ _ _, _ => rfl
  | .sl _ _ _ _, _ => rfl
  | .sla _ _ _ _, _ => rfl
theorem tpfreeL_emb : ∀ (cs : List (TV A)), tpfreeL cs = true → psfreeL (embC R cs) = true
  | [], _ => rfl
  | c :: r, h => by
    simp only [tpfreeL, Bool.and_eq_true] at h
    simp only [embC, psfreeL, Bool.and_eq_true]
    exact ⟨tpfree_emb c h.1, tpfreeL_emb r h.2⟩
end

/-- The element types whose cells are plain numbers, bools and strings. -/
def tpfreeH (fl : Nat → Bool) : TH A → Bool
  | [] => true
  | none :: H => tpfreeH fl H
  | some (.cells cs) :: H => tpfreeL cs && tpfreeH fl H
  | some (.arr e xs) :: H => fl e && tpfreeH fl H

theorem tpfreeH_emb {fl : Nat → Bool} (hfl : ∀ e, fl e = true → ∀ a, psfreeL (R.encL e a) = true) : ∀ (H : TH A), tpfreeH fl H = true → psfreeH (embH R H) = true
  | [], _ => rfl
  | none :: H, h => by simp only [embH, embO, psfreeH]; exact tpfreeH_emb hfl H (by simpa [tpfreeH] using h)
  | some (.cells cs) :: H, h => by
    simp only [tpfreeH, Bool.and_eq_true] at h
    simp only [embH, embO, embR, psfreeH, Bool.and_eq_true]
    exact ⟨tpfreeL_emb R cs h.1, tpfreeH_emb hfl H h.2⟩
  | some (.arr e xs) :: H, h => by
    simp only [tpfreeH, Bool.and_eq_true] at h
    simp only [embH, embO, embR, psfreeH, Bool.and_eq_true]
    refine ⟨?_, tpfreeH_emb hfl H h.2⟩
    have app : ∀ (a b : List LV), psfreeL a = true → psfreeL b = true → psfreeL (a ++ b) = true := by
      intro a
      induction a with
      | nil => intro b _ hb; exact hb
      | cons c r ih =>
        intro b ha hb
        simp only [psfreeL, Bool.and_eq_true, List.cons_append] at *
        exact ⟨ha.1, ih b ha.2 hb⟩
    induction xs with
    | nil => rfl
    | cons x r ih => rw [List.flatMap_cons]; exact app _ _ (hfl e h.1 x) ih

/-! ### What a reader is shown -/
def tsnap (H : TH A) : Nat → TV A → List Prop × TV A
  | 0, v => cond (thfree v) ([], v) ([], .dead)
  | k + 1, v => match v with
    | .sla sz h o n => (match trow H h with
      | some (.arr e xs) => cond (Nat.beq sz (R.sz e)) ([o + n ≤ xs.length], .lst e (cut xs o n)) ([], .dead)
      | _ => ([], .dead))
    | .fn f cs => ((cs.map (tsnap H k)).flatMap (·.1), .fn f ((cs.map (tsnap H k)).map (·.2)))
    | .agg cs => ((cs.map (tsnap H k)).flatMap (·.1), .agg ((cs.map (tsnap H k)).map (·.2)))
    | .und => ([], .und)
    | .bool b => ([], .bool b)
    | .int k n => ([], .int k n)
    | .str s => ([], .str s)
    | .nilp => ([], .nilp)
    | .nils => ([], .nils)
    | .nilf => ([], .nilf)
    | .pel cs => ([], .pel cs)
    | .lst e xs => ([], .lst e xs)
    | _ => ([], .dead)

theorem Conj.flat {α : Type _} {f : α → List Prop} : ∀ {l : List α}, Conj (l.flatMap f) → ∀ x ∈ l, Conj (f x)
  | [], _, x, hx => by simp at hx
  | a :: r, h, x, hx => by
    rw [List.flatMap_cons] at h
    obtain ⟨h1, h2⟩ := Conj.app h
    rcases List.mem_cons.1 hx with rfl | hx
    · exact h1
    · exact Conj.flat h2 x hx

/-- A value that says no more than the other, whatever the rows. -/
def Less (x y : LV) : Prop := ∀ (w : World) (per : Nat → Prop) (ι ι' : Pl) (v : Value), VR w per ι y v → VR w per ι' x v
theorem Less.dead {y : LV} : Less .dead y := fun _ _ _ _ v _ => .dead v
theorem Less.free {x : LV} (h : hfree x = true) : Less x x := fun _ _ _ _ _ hv => hv.hfree h

theorem snap_free {H : Hp} : ∀ (k : Nat) (x : LV), hfree x = true → (k = 0 ∨ ∀ cs, x ≠ .tup cs) → snap H k x = x := by
  intro k
  cases k with
  | zero => intro x hx _; simp [snap, hx]
  | succ k =>
    intro x hx ht
    have ht := ht.resolve_left (by omega)
    cases x <;> simp only [hfree, reduceCtorEq] at hx <;> simp only [snap]
    · simp [snL, hx]
    · simp [snL, hx]
    · exact absurd rfl (ht _)

theorem Less.agg {cs ds : List LV} (hl : cs.length = ds.length) (h : ∀ i (h1 : i < cs.length) (h2 : i < ds.length), Less cs[i] ds[i]) : Less (.agg cs) (.agg ds) := fun w per ι ι' v hv => by
  obtain ⟨vs, rfl, hvl⟩ := hv.agg_inv
  exact .agg (by rw [hl]; exact hvl.1) fun i hi2 => h i hi2 (by rw [← hl]; exact hi2) w per ι ι' _ (hvl.2 i (by rw [← hl]; exact hi2))
theorem Less.fn {f : Nat} {cs ds : List LV} (hl : cs.length = ds.length) (h : ∀ i (h1 : i < cs.length) (h2 : i < ds.length), Less cs[i] ds[i]) : Less (.fn f cs) (.fn f ds) := fun w per ι ι' v hv => by
  cases hv with
  | fn hn hvv => exact .fn (by rw [hl]; exact hn) fun i hi2 => h i hi2 (by rw [← hl]; exact hi2) w per ι ι' _ (hvv i (by rw [← hl]; exact hi2))

theorem snL_get {f : LV → LV} {l : List LV} : (snL f l).length = l.length ∧ ∀ i (h1 : i < (snL f l).length) (h2 : i < l.length), (snL f l)[i] = f l[i] ∨ (hfree l[i] = true ∧ (snL f l)[i] = l[i]) := by
  unfold snL
  split
  · rename_i hf
    exact ⟨rfl, fun i h1 h2 => .inr ⟨hfreeL_get hf i h2, rfl⟩⟩
  · exact ⟨by simp, fun i h1 h2 => .inl (by simp)⟩

theorem tsnap_ok (hR : R.Ok) (H : TH A) : ∀ (k : Nat) (v : TV A), Conj (tsnap R H k v).1 → Less (emb R (tsnap R H k v).2) (snap (embH R H) k (emb R v)) := by
  intro k
  induction k with
  | zero =>
    intro v _
    simp only [tsnap]
    cases hf : thfree v with
    | false => exact .dead
    | true =>
      simp only [cond_true, snap]
      rw [if_pos (thfree_emb R v hf)]
      exact .free (thfree_emb R v hf)
  | succ k ih =>
    have ihL : ∀ (cs : List (TV A)), Conj ((cs.map (tsnap R H k)).flatMap (·.1)) → (embC R ((cs.map (tsnap R H k)).map (·.2))).length = (snL (snap (embH R H) k) (embC R cs)).length ∧
        ∀ i (h1 : i < (embC R ((cs.map (tsnap R H k)).map (·.2))).length) (h2 : i < (snL (snap (embH R H) k) (embC R cs)).length), Less (embC R ((cs.map (tsnap R H k)).map (·.2)))[i] (snL (snap (embH R H) k) (embC R cs))[i] := by
      intro cs hc
      obtain ⟨g1, g2⟩ := snL_get (f := snap (embH R H) k) (l := embC R cs)
      refine ⟨by rw [g1, embC_length, embC_length]; simp, fun i h1 h2 => ?_⟩
      have hi : i < cs.length := by rw [embC_length] at h1; simpa using h1
      have hi2 : i < (embC R cs).length := by rw [embC_length]; exact hi
      have e1 : (embC R ((cs.map (tsnap R H k)).map (·.2)))[i] = emb R (tsnap R H k cs[i]).2 := by simp [embC_eq]
      have e2 : (embC R cs)[i] = emb R cs[i] := by simp [embC_eq]
      have hci := Conj.flat hc (tsnap R H k cs[i]) (List.mem_map.2 ⟨cs[i], List.getElem_mem hi, rfl⟩)
      rw [e1]
      rcases g2 i h2 hi2 with h | ⟨hf, h⟩
      · rw [h, e2]; exact ih _ hci
      · rw [h, e2]
        rw [e2] at hf
        by_cases ht : k = 0 ∨ ∀ ds, emb R cs[i] ≠ .tup ds
        · have := ih _ hci
          rwa [snap_free k _ hf ht] at this
        · -- a tuple is not shown
          have hk : ∃ j, k = j + 1 := ⟨k - 1, by omega⟩
          obtain ⟨j, rfl⟩ := hk
          have : ∃ ds, emb R cs[i] = .tup ds := by
            refine Classical.byContradiction fun hn => ht (.inr fun ds e => hn ⟨ds, e⟩)
          obtain ⟨ds, hds⟩ := this
          generalize cs[i] = v at *
          cases v <;> simp only [emb, reduceCtorEq] at hds <;> simp only [tsnap] <;> first | exact .dead | skip
    intro v hc
    cases v with
    | sla sz h o n =>
      simp only [tsnap] at hc ⊢
      split at hc
      · rename_i e xs hr
        cases hb : Nat.beq sz (R.sz e) with
        | false => simp only [cond_false]; exact .dead
        | true =>
          rw [hb] at hc
          simp only [cond_true] at hc ⊢
          obtain ⟨c1, _⟩ := hc
          have hs := Nat.eq_of_beq_eq_true hb
          subst hs
          simp only [emb, snap, row_emb R hr, embR]
          have hle : o * R.sz e + n * R.sz e ≤ (xs.flatMap (R.encL e)).length := by
            rw [fm_length (hR.len e), ← Nat.add_mul]; exact Nat.mul_le_mul_right _ c1
          rw [if_pos hle, fm_drop (hR.len e), fm_take (hR.len e), ← cut_eq]
          unfold snL
          rw [if_pos (hfreeL_flat (hR.free e) _), cut_length c1]
          exact .free rfl
      · exact .dead
    | fn f cs =>
      simp only [tsnap] at hc ⊢
      simp only [emb, snap]
      exact .fn (ihL cs hc).1 (ihL cs hc).2
    | agg cs =>
      simp only [tsnap] at hc ⊢
      simp only [emb, snap]
      exact .agg (ihL cs hc).1 (ihL cs hc).2
    | opt b v => simp only [tsnap]; exact .dead
    | _ => simp only [tsnap, emb, snap]; first | exact .dead | exact .free rfl

end

/-- Arguments that say less. -/
theorem LC.args {P : Program} {f : Nat} {as bs : List LV} {Q : LV → Hp → Prop} (hl : as.length = bs.length) (h : ∀ i (h1 : i < as.length) (h2 : i < bs.length), Less as[i] bs[i]) (hc : LC P f as [] Q) : LC P f bs [] Q :=
  ⟨hc.1, fun kp per ι w vs h1 h2 h3 h4 => hc.2 kp per ι w vs h1 h2 h3 ⟨by rw [hl]; exact h4.1, fun i hi => h i hi (by rw [← hl]; exact hi) w per ι ι _ (h4.2 i (by rw [← hl]; exact hi))⟩⟩

end Go.Lite
