/- Lite, parts Srt. -/
import Derived.Test.YtagfanbodglplaaLiteTP
import Derived.Shelf.SlSortCmp.Whole1
set_option linter.unusedVariables false
set_option linter.unusedSimpArgs false

/- Lite, part Srt: slices.SortFunc over a row of numbers, under an order that is a closure's. -/
namespace Go.Lite
open Go Go.RowKit
set_option linter.unusedVariables false

section
variable {P : Program} {ρ : Go.Shelf.Ren} {α : Type} [Inhabited α]

/-- What the sort makes of a list. -/
def srt (cf : α → α → Int) (xs : List α) : List α := (Go.Sort.pdq (Go.Proofs.ltOf cf) xs.toArray 0 xs.length (Go.Lib.bitLen xs.length) true true).toList

theorem srt_perm {cf : α → α → Int} (hO : Go.Sort.SWO (Go.Proofs.ltOf cf)) (xs : List α) : (srt cf xs).Perm xs := by
  have h := (Go.Sort.pdq_sorts (Go.Proofs.ltOf cf) hO xs.toArray 0 xs.length (Go.Lib.bitLen xs.length) true true (Nat.zero_le _) (by simp) (Or.inl rfl)).1
  obtain ⟨h1, _, h3⟩ := h
  have e1 : (Go.Sort.pdq (Go.Proofs.ltOf cf) xs.toArray 0 xs.length (Go.Lib.bitLen xs.length) true true).extract 0 xs.length = Go.Sort.pdq (Go.Proofs.ltOf cf) xs.toArray 0 xs.length (Go.Lib.bitLen xs.length) true true := by
    have : xs.length = (Go.Sort.pdq (Go.Proofs.ltOf cf) xs.toArray 0 xs.length (Go.Lib.bitLen xs.length) true true).size := by rw [h1]; simp
    conv => lhs; arg 3; rw [this]
    simp
  rw [e1] at h3
  have e2 : xs.toArray.extract 0 xs.length = xs.toArray := by
    have : xs.length = xs.toArray.size := by simp
    rw [this]; simp
  rw [e2] at h3
  simpa [srt] using h3

theorem srt_length {cf : α → α → Int} (hO : Go.Sort.SWO (Go.Proofs.ltOf cf)) (xs : List α) : (srt cf xs).length = xs.length := (srt_perm hO xs).length_eq

theorem lc_sort (L : Go.Proofs.SlLaysF.n6 P ρ) (hcal : callable P (ρ.f 6) = true) (enc : α → Int) (cf : α → α → Int) (hO : Go.Sort.SWO (Go.Proofs.ltOf cf)) (g : Nat) (caps : List LV) (Hc : Hp)
    (hc : ∀ x y : α, LC P g ([LV.int .i64 (enc x), LV.int .i64 (enc y)] ++ caps.map (snap (none :: Hc) 3)) [] (fun v _ => v = .int .i64 (cf x y)))
    (xs : List α) (hne : 0 < xs.length) (hl : xs.length < 4611686018427387904) (hcap : isUnd caps = false) :
    LC P (ρ.f 6) [.sl 1 0 0 xs.length, .fn g caps] (some (xs.map fun x => LV.int .i64 (enc x)) :: Hc) fun v G => v = .tup [] ∧ G = some ((srt cf xs).map fun x => LV.int .i64 (enc x)) :: Hc := by
  refine ⟨hcal, fun kp per ι w vs hrep hkp hper hvl => ?_⟩
  obtain ⟨hvl1, hvl2⟩ := hvl
  match vs, hvl1 with
  | [v1, v2], _ =>
  have hv1 : VR w per ι (.sl 1 0 0 xs.length) v1 := by simpa using hvl2 0 (by simp)
  have hv2 : VR w per ι (.fn g caps) v2 := by simpa using hvl2 1 (by simp)
  have hfx : ∃ us : List Value, v2 = .func (.func g) #[] us.toArray ∧ caps.length = us.length ∧ ∀ i (h : i < caps.length), VR w per ι caps[i] (us.getD i undef) := by
    cases hv2 with
    | fn hn hv => exact ⟨_, fnV_off hcap, hn, hv⟩
  obtain ⟨us, rfl, hn, hus⟩ := hfx
  rcases hv1.sl_inv with ⟨b, o, cap, hib, hml, hr, rfl⟩ | ⟨hm0, _⟩
  rotate_left
  · omega
  rcases hrep.live 0 _ (by rfl) with ⟨h1, _⟩ | ⟨b', o', c, e, hib', hkb, hpb, hlive, hle, hcells⟩
  · rw [h1] at hib; cases hib
  rw [hib'] at hib
  simp only [Option.some.injEq, Prod.mk.injEq] at hib
  obtain ⟨rfl, rfl⟩ := hib
  have hle' : o' + xs.length ≤ c.size := by simpa using hle
  have hcell : ∀ j (hj : j < xs.length), c[o' + j]? = some (.int .i64 (enc xs[j])) := fun j hj => by
    have h := hcells j (by simpa using hj)
    simp only [List.getElem_map] at h
    have hlt : o' + j < c.size := by omega
    rw [Array.getD_eq_getD_getElem?, Array.getElem?_eq_getElem hlt, Option.getD_some] at h
    rw [Array.getElem?_eq_getElem hlt]
    generalize c[o' + j] = q at h
    cases h
    rfl
  obtain ⟨f, hf⟩ : ∃ f : α → Value, f = fun x => .int .i64 (enc x) := ⟨_, rfl⟩
  have h1 : Go.Proofs.OneCell f := fun x => by rw [hf]; rfl
  have hblt : b' < w.heap.size := lt_of_get hlive.1
  have hH : Go.Sort.Holds f w b' (o' + 0) xs.toArray := fun j hj => by
    have hj' : j < xs.length := by simpa using hj
    refine ⟨?_, ?_⟩
    · unfold World.cell?
      simp only [hlive.1, Nat.add_zero]
      rw [getElem!_pos _ j hj, hf]
      simpa using hcell j hj'
    · unfold World.frozen?
      simp only [hlive.1, Nat.add_zero]
      have := hlive.2 (o' + j) (by omega)
      simpa using this
  have hsz : xs.toArray.size = xs.length := by simp
  -- the worlds that the sort goes through
  have hW : ∀ (m : Nat) (os : Array Obj) (dk : Array α), dk.size = xs.length → ∃ W, W = Go.Proofs.sortWorld f w b' (o' + 0) m dk os ∧
      (∀ k, k ≠ b' → k < w.heap.size → W.heap[k]? = w.heap[k]?) ∧ w.heap.size ≤ W.heap.size ∧ W.os = w.os ∧ W.tape = w.tape ∧ W.output = w.output ∧ w.drawn ≤ W.drawn ∧
      W.heap[b']? = some (.cells (Go.Sort.putCells f (o' + 0) dk c) e.1 e.2) := by
    intro m os dk hdk
    refine ⟨_, rfl, fun k hk hkl => ?_, ?_, rfl, rfl, rfl, ?_, ?_⟩
    · unfold Go.Proofs.sortWorld
      have hh : k < (Go.Sort.putRow f (Go.Sort.ahead w m) b' (o' + 0) dk).heap.size := by rw [Go.Proofs.size_putRow]; exact hkl
      rw [Go.Sort.heap_grow_old _ _ hh]
      show (w.heap.modify b' _)[k]? = _
      rw [Array.getElem?_modify, if_neg (fun e => hk e.symm)]
    · unfold Go.Proofs.sortWorld
      rw [Go.Sort.size_grow, Go.Proofs.size_putRow]
      exact Nat.le_add_right _ _
    · exact Nat.le_add_right _ _
    · unfold Go.Proofs.sortWorld
      have hh : b' < (Go.Sort.putRow f (Go.Sort.ahead w m) b' (o' + 0) dk).heap.size := by rw [Go.Proofs.size_putRow]; exact hblt
      rw [Go.Sort.heap_grow_old _ _ hh]
      show (w.heap.modify b' _)[b']? = _
      rw [Array.getElem?_modify, if_pos rfl, hlive.1]
      rfl
  have sizeP : ∀ dk : Array α, (Go.Sort.putCells f (o' + 0) dk c).size = c.size := fun dk => by simp [Go.Sort.putCells]
  have sameRoom : ∀ W : World, (∀ k, k ≠ b' → k < w.heap.size → W.heap[k]? = w.heap[k]?) → (∀ dk, W.heap[b']? = some (.cells (Go.Sort.putCells f (o' + 0) dk c) e.1 e.2) → ∀ b n, Room w b n → Room W b n) := by
    intro W h1 dk h2 b n ⟨c1, e1, fz, g1, g2⟩
    by_cases hb : b = b'
    · subst hb
      rw [hlive.1] at g1
      simp only [Option.some.injEq, Obj.cells.injEq] at g1
      obtain ⟨rfl, rfl, rfl⟩ := g1
      exact ⟨_, _, _, h2, by rw [sizeP]; exact g2⟩
    · exact ⟨c1, e1, fz, by rw [h1 b hb (lt_of_get g1)]; exact g1, g2⟩
  have hcmp : Go.Proofs.CmpLays1 P g us.toArray f cf b' (o' + 0) xs.toArray.size w := by
    intro m os dk hdk x y
    obtain ⟨W, eW, w1, w2, w3, w4, w5, w6, w7⟩ := hW m os dk (by simpa using hdk)
    rw [← eW]
    have hstep : Step per w W := ⟨fun k hk => w1 k (fun e => hpb (e ▸ hk)) (hrep.perlt k hk), sameRoom W w1 dk w7⟩
    have hrepW : Rep kp W ι per (none :: Hc) := by
      refine ⟨by simpa using hrep.len, fun k hk => Nat.lt_of_lt_of_le (hrep.perlt k hk) w2, fun k cs hk => ?_, fun k k' cs cs' x1 x2 y1 y2 hk hk' => ?_⟩
      · cases k with
        | zero => simp at hk
        | succ k =>
          have hk2 : (some (xs.map fun x => LV.int .i64 (enc x)) :: Hc)[k + 1]? = some (some cs) := by simpa using hk
          rcases hrep.live (k + 1) cs hk2 with h | ⟨b2, o2, c2, e2, g1, g2, g3, g4, g5, g6⟩
          · exact .inl h
          · refine .inr ⟨b2, o2, c2, e2, g1, g2, g3, g4.get (w1 b2 (fun e => ?_) (lt_of_get g4.1)), g5, fun i hi => (g6 i hi).step hstep (fun _ h => h) (fun _ _ h => h)⟩
            have := hrep.inj (k + 1) 0 cs _ b2 o2 b' o' hk2 (by rfl) g1 hib' e
            omega
      · cases k with
        | zero => simp at hk
        | succ k =>
          cases k' with
          | zero => simp at hk'
          | succ k' => exact hrep.inj (k + 1) (k' + 1) cs cs' x1 x2 y1 y2 (by simpa using hk) (by simpa using hk')
    have hst : ST ⟨kp, per, W, ι, none⟩ ⟨0, ι.length, false, none⟩ ι per [] (none :: Hc) { tmps := #[], defers := [] } W :=
      ⟨hrepW, fun b hb => .inl hb, fun b hb => hb, fun t => .dead _, rfl, ⟨⟨[], rfl, List.nodup_nil, fun D hD => by simp at hD⟩, fun _ => rfl, fun _ => rfl, fun z hz => by cases hz⟩, Kept.refl _ _, fun b hb => Nat.lt_of_lt_of_le (hkp b hb) w2, rfl, fun h _ => rfl⟩
    have hvlW : VL W [] (allOf W) ([LV.int .i64 (enc x), LV.int .i64 (enc y)] ++ caps.map (snap (none :: Hc) 3)) ([Value.int .i64 (enc x), Value.int .i64 (enc y)] ++ us) := by
      refine ⟨by simp [hn], fun i hi => ?_⟩
      match i, hi with
      | 0, _ => exact .int _ _
      | 1, _ => exact .int _ _
      | i + 2, hi =>
        have hi2 : i < caps.length := by simpa using hi
        have := snap_sound hst 3 _ _ ((hus i hi2).step hstep (fun _ h => h) (fun _ _ h => h) (ι' := ι))
        simpa using this
    have hcall := (hc x y).2 (fun k => k < W.heap.size) (allOf W) [] W _ (Rep.nil _ _ _ fun k hk => hk) (fun k hk => hk) (fun k hk => hk) hvlW
    have ea : ([Value.int .i64 (enc x), Value.int .i64 (enc y)] ++ us).toArray = #[f x, f y] ++ us.toArray := by subst hf; apply Array.ext'; simp
    rw [ea] at hcall
    refine hcall.mono fun e2 w' ⟨v, res, H1, ι1, per1, q1, q2, q3, q4, q5, q6⟩ => ?_
    subst q2
    cases q5
    refine ⟨q1, w'.drawn - W.drawn, w'.heap.extract W.heap.size w'.heap.size, ?_⟩
    have hd := q3.drawn
    have ed : W.drawn + (w'.drawn - W.drawn) = w'.drawn := by omega
    have eh : W.heap ++ w'.heap.extract W.heap.size w'.heap.size = w'.heap := by
      have hs := q3.size
      apply Array.ext_getElem?
      intro k
      by_cases hk : k < W.heap.size
      · rw [Array.getElem?_append_left hk]; exact (q3.step.same k hk).symm
      · rw [Array.getElem?_append_right (by omega), Array.getElem?_extract]
        by_cases hk2 : k < w'.heap.size
        · rw [if_pos (by omega)]; congr 1; omega
        · rw [if_neg (by omega), Array.getElem?_eq_none (by omega)]
    have h1 := q3.os; have h2 := q3.tape; have h3 := q3.output
    cases w' with
    | mk h t d oo ou =>
      simp only at h1 h2 h3 ed eh
      subst h1 h2 h3
      simp only [Go.Sort.grow, World.drewN]
      rw [eh, ed]
  have eg : ∀ args w, (callFunc g args).run P w = .ok (.enter g args) w := fun args w => callFunc_enter (hc default default).1 args
  have hmain := Go.Proofs.Any.slices_SortFunc_eq L f h1 cf hO g us.toArray b' (o' + 0) cap xs.toArray w eg hcmp hH hblt (by rw [hsz]; exact hl)
  rw [hsz] at hmain
  have eargs : ([.slice (some ⟨b', o' + 0, none⟩) xs.length cap, .func (.func g) #[] us.toArray] : List Value).toArray = #[.slice (some ⟨b', o' + 0, none⟩) xs.length cap, .func (.func g) #[] us.toArray] := rfl
  rw [eargs]
  refine hmain.mono fun e3 w' ⟨he, m, os, hw'⟩ => ?_
  obtain ⟨ds, hds⟩ : ∃ ds, Go.Sort.pdq (Go.Proofs.ltOf cf) xs.toArray 0 xs.length (Go.Lib.bitLen xs.length) true true = ds := ⟨_, rfl⟩
  have hsrt : srt cf xs = ds.toList := by unfold srt; rw [hds]
  have hdl : ds.size = xs.length := by have := srt_length hO xs; rw [hsrt] at this; simpa using this
  rw [hds] at hw'
  rw [hsrt]
  obtain ⟨W, eW, w1, w2, w3, w4, w5, w6, w7⟩ := hW m os ds hdl
  rw [← eW] at hw'
  subst hw'
  have hstep : Step per w w' := ⟨fun k hk => w1 k (fun e => hpb (e ▸ hk)) (hrep.perlt k hk), sameRoom w' w1 ds w7⟩
  refine ⟨_, .tup [], _, ι, per, he, ⟨rfl, rfl⟩, ⟨w3, w4, w5, w2, ⟨fun k hk => w1 k (fun e => hkb (e ▸ hk)) (hkp k hk), sameRoom w' w1 ds w7⟩, fun k ob hk ho => ?_, w6⟩, ⟨?_, fun k hk => Nat.lt_of_lt_of_le (hrep.perlt k hk) w2, fun k cs hk => ?_, fun k k' cs cs' x1 x2 y1 y2 hk hk' h3 h4 h5 => ?_⟩, ?_, fun k hk => .inl hk, fun k hk => hk, fun k hk => rfl⟩
  · rw [w1 k (fun e => ?_) (lt_of_get hk)]
    · exact hk
    · subst e; rw [hlive.1] at hk; cases hk; cases ho
  · simpa using hrep.len
  · cases k with
    | zero =>
      simp only [List.getElem?_cons_zero, Option.some.injEq] at hk
      subst hk
      refine .inr ⟨b', o', _, e, hib', hkb, hpb, ⟨w7, by rw [sizeP]; exact hlive.2⟩, by rw [sizeP]; simpa [hdl] using hle', fun i hi => ?_⟩
      have hi2 : i < ds.size := by simpa using hi
      have : (Go.Sort.putCells f (o' + 0) ds c).getD (o' + i) undef = .int .i64 (enc ds[i]) := by
        rw [Array.getD_eq_getD_getElem?]
        simp only [Go.Sort.putCells, Array.getElem?_mapIdx]
        rw [Array.getElem?_eq_getElem (show o' + i < c.size by omega)]
        simp only [Option.map_some, Option.getD_some]
        rw [if_pos (by omega)]
        have e1 : o' + i - (o' + 0) = i := by omega
        rw [e1, getElem!_pos _ i hi2, hf]
      rw [this]
      simp only [List.getElem_map, Array.getElem_toList]
      exact .int _ _
    | succ k =>
      have hk2 : (some (xs.map fun x => LV.int .i64 (enc x)) :: Hc)[k + 1]? = some (some cs) := by simpa using hk
      rcases hrep.live (k + 1) cs hk2 with h | ⟨b2, o2, c2, e2, g1, g2, g3, g4, g5, g6⟩
      · exact .inl h
      · refine .inr ⟨b2, o2, c2, e2, g1, g2, g3, g4.get (w1 b2 (fun e => ?_) (lt_of_get g4.1)), g5, fun i hi => (g6 i hi).step hstep (fun _ h => h) (fun _ _ h => h)⟩
        have := hrep.inj (k + 1) 0 cs _ b2 o2 b' o' hk2 (by rfl) g1 hib' e
        omega
  · have old : ∀ (k : Nat) (d : List LV), (some (ds.toList.map fun x => LV.int .i64 (enc x)) :: Hc)[k]? = some (some d) → ∃ d', (some (xs.map fun x => LV.int .i64 (enc x)) :: Hc)[k]? = some (some d') := by
      intro k d hk
      cases k with
      | zero => exact ⟨_, rfl⟩
      | succ k => exact ⟨d, by simpa using hk⟩
    obtain ⟨d1, g1⟩ := old k cs hk
    obtain ⟨d2, g2⟩ := old k' cs' hk'
    exact hrep.inj k k' d1 d2 x1 x2 y1 y2 g1 g2 h3 h4 h5
  · exact .tup (cs := []) (vs := []) rfl (fun i hi => by simp at hi)

end

section
variable {A : Nat → Type} {R : Reg A} {P : Program} {τ : TT} {fl : Nat → Bool} {ρ : Go.Shelf.Ren} {α : Type} [Inhabited α]

/-- The sort's contract: the row holds what srt says; the rows that the order's closure looks at stay. -/
theorem tc_sort (E : Env A R P τ fl) (L : Go.Proofs.SlLaysF.n6 P ρ) (hcal : callable P (ρ.f 6) = true) (el : Nat) (mk : α → A el) (enc : α → Int) (hel : R.sz el = 1) (hmk : ∀ x, R.encL el (mk x) = [LV.int .i64 (enc x)]) (cf : α → α → Int) (hO : Go.Sort.SWO (Go.Proofs.ltOf cf)) (g : Nat)
    (caps caps0 : List (TV A)) (Hc : TH A) {p : List Prop} (hs : ((caps.map (tsnap R (none :: Hc) 3)).flatMap (·.1), (caps.map (tsnap R (none :: Hc) 3)).map (·.2)) = (p, caps0)) (hp : Conj p)
    (hc : ∀ x y : α, TC R P g (TV.int .i64 (enc x) :: TV.int .i64 (enc y) :: caps0) [] (fun v X => v = .int .i64 (cf x y) ∧ X = []))
    (xs : List α) (hne : 0 < xs.length) (hl : xs.length < 4611686018427387904) (hcap : isUnd (embC R caps) = false := by rfl) :
    TC R P (ρ.f 6) [.sla 1 0 0 xs.length, .fn g caps] (some (.arr el (xs.map mk)) :: Hc) fun v X => v = .tup [] ∧ X = some (.arr el ((srt cf xs).map mk)) :: Hc := by
  obtain ⟨rfl, rfl⟩ := Prod.mk.inj hs
  have fm : ∀ ys : List α, (ys.map mk).flatMap (R.encL el) = ys.map fun x => LV.int .i64 (enc x) := by
    intro ys
    induction ys with
    | nil => rfl
    | cons y ys ih => rw [List.map_cons, List.flatMap_cons, ih, hmk]; rfl
  have h := lc_sort (P := P) L hcal enc cf hO g (embC R caps) (embH R Hc) (fun x y => by
    refine LC.args ?_ ?_ (LC.mono (hc x y) fun v G ⟨v', X, ⟨q1, q2⟩, e1, e2⟩ => by subst e1; subst q1; rfl)
    · simp [embC_length, embC]
    · intro i h1 h2
      match i, h1, h2 with
      | 0, _, _ => exact .free rfl
      | 1, _, _ => exact .free rfl
      | i + 2, h1, h2 =>
        have hi : i < caps.length := by simp only [embC, List.length_cons, embC_length, List.length_map] at h1; omega
        have := tsnap_ok R E.ok (none :: Hc) 3 caps[i] (Conj.flat hp _ (List.mem_map.2 ⟨caps[i], List.getElem_mem hi, rfl⟩))
        simpa [embC_eq, embH, embO, embC] using this) xs hne hl hcap
  refine ⟨h.1, fun kp per ι w vs h1 h2 h3 h4 => ?_⟩
  have e1 : embH R (some (.arr el (xs.map mk)) :: Hc) = some (xs.map fun x => LV.int .i64 (enc x)) :: embH R Hc := by simp only [embH, embO, embR, fm]
  have e2 : embC R [.sla 1 0 0 xs.length, .fn g caps] = [LV.sl 1 0 0 xs.length, .fn g (embC R caps)] := by simp [embC, emb]
  rw [e1] at h1
  rw [e2] at h4
  refine (h.2 kp per ι w vs h1 h2 h3 h4).mono fun e w' ⟨v, res, H', ι', per', q1, ⟨q2, q3⟩, q4⟩ => ⟨v, res, H', ι', per', q1, ⟨.tup [], _, ⟨rfl, rfl⟩, by rw [q2]; simp [emb, embC], by rw [q3]; simp only [embH, embO, embR, fm]⟩, q4⟩

end
end Go.Lite
