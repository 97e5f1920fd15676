/- Lite, parts S O P. -/
import Derived.Test.YtagfanbodglplaaLiteN
import Derived.Test.YtagfanbodglplaaLiteY
set_option linter.unusedVariables false
set_option linter.unusedSimpArgs false

/- Lite, part S: rows forgotten, renamed, frozen; calls that leave nothing behind. -/
namespace Go.Lite
open Go Go.RowKit
set_option linter.unusedVariables false

def sgOf (σ : List (Option Nat)) (j : Nat) : Option Nat := match σ[j]? with
  | some x => x
  | none => none

/-- What y says is said by x, the rows renumbered: number j is the old number σ j. -/
def FitS (σ : List (Option Nat)) (x y : LV) : Prop :=
  ∀ (w : World) (per : Nat → Prop) (ι ι' : Pl), (∀ (j h : Nat) (b : Nat × Nat), sgOf σ j = some h → ι[h]? = some (some b) → ι'[j]? = some (some b)) → ∀ v, VR w per ι y v → VR w per ι' x v

theorem FitS.dead {σ : List (Option Nat)} {y : LV} : FitS σ .dead y := fun _ _ _ _ _ v _ => .dead v
theorem FitS.free {σ : List (Option Nat)} {x : LV} (h : hfree x = true) : FitS σ x x := fun _ _ _ _ _ _ hv => hv.hfree h
theorem FitS.ptr {σ : List (Option Nat)} {j h o : Nat} (hs : sgOf σ j = some h) : FitS σ (.ptr j o) (.ptr h o) := fun _ _ _ _ hi v hv => by
  cases hv with
  | ptr h1 => exact .ptr (hi _ _ _ hs h1)
theorem FitS.sl {σ : List (Option Nat)} {sz j h o n : Nat} (hs : sgOf σ j = some h) : FitS σ (.sl sz j o n) (.sl sz h o n) := fun _ _ _ _ hi v hv => by
  cases hv with
  | sl h1 h2 h3 => exact .sl (hi _ _ _ hs h1) h2 h3
  | slz => exact .slz
theorem FitS.slnil {σ : List (Option Nat)} {sz j o : Nat} : FitS σ (.sl sz j o 0) .nils := fun _ _ _ _ hi v hv => by
  cases hv with
  | nils => exact .slz
theorem FitS.psnil {σ : List (Option Nat)} {sz : Nat} : FitS σ (.ps sz 0 []) .nils := fun _ _ _ _ hi v hv => by
  cases hv with
  | nils => exact .psz
theorem FitS.agg {σ : List (Option Nat)} {cs ds : List LV} (hl : cs.length = ds.length) (h : ∀ i (h1 : i < cs.length) (h2 : i < ds.length), FitS σ cs[i] ds[i]) : FitS σ (.agg cs) (.agg ds) := fun w per ι ι' hi v hv => by
  obtain ⟨vs, rfl, hvl⟩ := hv.agg_inv
  exact .agg (by rw [hl]; exact hvl.1) fun i hi2 => h i hi2 (by rw [← hl]; exact hi2) w per ι ι' hi _ (hvl.2 i (by rw [← hl]; exact hi2))
theorem FitS.tup {σ : List (Option Nat)} {cs ds : List LV} (hl : cs.length = ds.length) (h : ∀ i (h1 : i < cs.length) (h2 : i < ds.length), FitS σ cs[i] ds[i]) : FitS σ (.tup cs) (.tup ds) := fun w per ι ι' hi v hv => by
  obtain ⟨vs, rfl, hvl⟩ := hv.tup_inv
  exact .tup (by rw [hl]; exact hvl.1) fun i hi2 => h i hi2 (by rw [← hl]; exact hi2) w per ι ι' hi _ (hvl.2 i (by rw [← hl]; exact hi2))
theorem FitS.fn {σ : List (Option Nat)} {f : Nat} {cs ds : List LV} (hu : isUnd cs = isUnd ds) (hl : cs.length = ds.length) (h : ∀ i (h1 : i < cs.length) (h2 : i < ds.length), FitS σ cs[i] ds[i]) : FitS σ (.fn f cs) (.fn f ds) := fun w per ι ι' hi v hv => by
  cases hv with
  | fn hn hvv => exact .fnC (by rw [hl]; exact hn) (fun i hi2 => h i hi2 (by rw [← hl]; exact hi2) w per ι ι' hi _ (hvv i (by rw [← hl]; exact hi2))) hu

/-- Rows forgotten and renumbered. -/
theorem Wk.canon {N : Dim} {F F' : Fr} {H H' : Hp} (σ : List (Option Nat)) (hlen : σ.length = H'.length) (hinj : ∀ j j' h, sgOf σ j = some h → sgOf σ j' = some h → j = j') (hm : ∀ j, j < N.m → sgOf σ j = some j)
    (hF : ∀ t, FitS σ (fget F' t) (fget F t))
    (hH : ∀ (j : Nat) (cs' : List LV), H'[j]? = some (some cs') → (sgOf σ j = none ∧ cs' = []) ∨ ∃ h cs, sgOf σ j = some h ∧ H[h]? = some (some cs) ∧ cs'.length ≤ cs.length ∧ ∀ i (h1 : i < cs'.length) (h2 : i < cs.length), FitS σ cs'[i] cs[i]) :
    Wk N F' H' F H := by
  intro cx a w hsr
  obtain ⟨ι, per, hst⟩ := hsr.st
  let ι' : Pl := σ.map fun x => match x with
    | some h => (ι[h]?).getD none
    | none => none
  have sg_lt : ∀ (j h : Nat), sgOf σ j = some h → j < σ.length := by
    intro j h hj
    rcases Nat.lt_or_ge j σ.length with h' | h'
    · exact h'
    · simp [sgOf, List.getElem?_eq_none h'] at hj
  have at' : ∀ (j h : Nat), sgOf σ j = some h → ι'[j]? = some ((ι[h]?).getD none) := by
    intro j h hj
    have hl := sg_lt j h hj
    have e : σ[j]? = some (some h) := by
      unfold sgOf at hj
      rw [List.getElem?_eq_getElem hl] at hj ⊢
      rw [← hj]
    simp [ι', e]
  have fits : ∀ (j h : Nat) (b : Nat × Nat), sgOf σ j = some h → ι[h]? = some (some b) → ι'[j]? = some (some b) := by
    intro j h b hj hb
    rw [at' j h hj, hb]; rfl
  have back : ∀ (j : Nat) (b : Nat × Nat), ι'[j]? = some (some b) → ∃ h, sgOf σ j = some h ∧ ι[h]? = some (some b) := by
    intro j b hb
    cases hs : sgOf σ j with
    | some h =>
      refine ⟨h, rfl, ?_⟩
      rw [at' j h hs] at hb
      cases hx : ι[h]? with
      | none => rw [hx] at hb; simp at hb
      | some y => rw [hx] at hb; simpa using hb
    | none =>
      have hl : j < σ.length := by
        rcases Nat.lt_or_ge j σ.length with h' | h'
        · exact h'
        · rw [List.getElem?_eq_none (by simpa [ι'] using h')] at hb; cases hb
      have e : σ[j]? = some none := by
        unfold sgOf at hs
        rw [List.getElem?_eq_getElem hl] at hs ⊢
        rw [← hs]
      simp [ι', e] at hb
  refine .of (ι := ι') (per := per) ⟨⟨by simp [ι', hlen], hst.rep.perlt, fun j cs' hj => ?_, fun j j' cs cs' b o b' o' hj hj' hi hi' hbb => ?_⟩, hst.p1, hst.p2, fun t => hF t w per ι ι' fits _ (hst.fr t), hst.size, hst.defers, hst.below, hst.bs, hst.grow.1, fun j hj => ?_⟩
  · rcases hH j cs' hj with ⟨h1, rfl⟩ | ⟨h, cs, h1, h2, h3, h4⟩
    · refine .inl ⟨?_, rfl⟩
      have hl : j < σ.length := by rw [hlen]; exact lt_row hj
      have e : σ[j]? = some none := by
        unfold sgOf at h1
        rw [List.getElem?_eq_getElem hl] at h1 ⊢
        rw [← h1]
      simp [ι', e]
    · rcases hst.rep.live h cs h2 with ⟨k1, k2⟩ | ⟨b, o, c, e, k1, k2, k3, k4, k5, k6⟩
      · subst k2
        refine .inl ⟨?_, List.eq_nil_of_length_eq_zero (by simpa using h3)⟩
        rw [at' j h h1, k1]; rfl
      · exact .inr ⟨b, o, c, e, fits j h _ h1 k1, k2, k3, k4, by omega, fun i hi => h4 i hi (by omega) w per ι ι' fits _ (k6 i (by omega))⟩
  · obtain ⟨h1, s1, i1⟩ := back _ _ hi
    obtain ⟨h2, s2, i2⟩ := back _ _ hi'
    rcases hH j cs hj with ⟨z, _⟩ | ⟨h, ds, q1, q2, _⟩
    · rw [s1] at z; cases z
    rcases hH j' cs' hj' with ⟨z, _⟩ | ⟨h', ds', q1', q2', _⟩
    · rw [s2] at z; cases z
    rw [s1] at q1; rw [s2] at q1'
    cases q1; cases q1'
    have := hst.rep.inj _ _ _ _ _ _ _ _ q2 q2' i1 i2 hbb
    subst this
    exact hinj j j' _ s1 s2
  · rw [at' j j (hm j hj), ← hst.grow.2 j hj]
    have : j < ι.length := Nat.lt_of_lt_of_le hj hst.mle
    rw [List.getElem?_eq_getElem this]; rfl

/-! ### A row that nobody writes any more becomes plain -/
mutual
def fz (h : Nat) (cs : List LV) : LV → LV
  | .ptr k o => if k = h then .pp (cs.drop o) else .ptr k o
  | .sl sz k o n => if k = h then (if o + n * sz ≤ cs.length then .ps sz n ((cs.drop o).take (n * sz)) else .dead) else .sl sz k o n
  | .fn f ds => .fn f (fzL h cs ds)
  | .agg ds => .agg (fzL h cs ds)
  | .tup ds => .tup (fzL h cs ds)
  | .dead => .dead
  | .und => .und
  | .bool b => .bool b
  | .int k m => .int k m
  | .str s => .str s
  | .nilp => .nilp
  | .pp cs => .pp cs
  | .nils => .nils
  | .ps sz m cs => .ps sz m cs
  | .nilf => .nilf
  | .yld l => .yld l
def fzL (h : Nat) (cs : List LV) : List LV → List LV
  | [] => []
  | c :: r => fz h cs c :: fzL h cs r
end

theorem fz_und {h : Nat} {cs : List LV} (x : LV) : fz h cs x = .und ↔ x = .und := by cases x <;> simp only [fz, reduceCtorEq, iff_false, iff_self] <;> (repeat' split) <;> simp
theorem fzL_eq (h : Nat) (cs ds : List LV) : fzL h cs ds = ds.map (fz h cs) := by
  induction ds with
  | nil => rfl
  | cons c r ih => simp [fzL, ih]

def fzF (h : Nat) (cs : List LV) : Fr → Fr
  | [] => []
  | (t, x) :: r => (t, fz h cs x) :: fzF h cs r
def fzR (h : Nat) (cs : List LV) : Option (List LV) → Option (List LV)
  | none => none
  | some ds => some (fzL h cs ds)

theorem fget_fzF (h : Nat) (cs : List LV) (F : Fr) (t : Nat) : fget (fzF h cs F) t = fz h cs (fget F t) := by
  induction F with
  | nil => simp [fzF, fget, fz]
  | cons p r ih =>
    obtain ⟨s, x⟩ := p
    simp only [fzF, fget_cons]
    split
    · rfl
    · exact ih

theorem skol {n : Nat} {p : Nat → Value → Prop} (h : ∀ i, i < n → ∃ u, p i u) : ∃ us : Nat → Value, ∀ i, i < n → p i (us i) := by
  classical
  refine ⟨fun i => if hi : i < n then Classical.choose (h i hi) else undef, fun i hi => ?_⟩
  show p i (if hi : i < n then Classical.choose (h i hi) else undef)
  rw [dif_pos hi]
  exact Classical.choose_spec (h i hi)

theorem VR.fz {w : World} {per : Nat → Prop} {ι : Pl} {h : Nat} {cs : List LV} {per' : Nat → Prop} (hp : ∀ b, per b → per' b)
    (hrow : ∀ b o, ι[h]? = some (some (b, o)) → per' b ∧ ∀ i (hi : i < cs.length), ∃ u, w.cell? ⟨b, o + i, none⟩ = some u ∧ VR w per' [] cs[i] u) {x : LV} {v : Value} (hv : VR w per ι x v) : VR w per' ι (Lite.fz h cs x) v := by
  induction hv with
  | dead v => exact .dead v
  | und => exact .und
  | bool b => exact .bool b
  | int k n => exact .int k n
  | str s => exact .str s
  | nilp => exact .nilp
  | @ptr ι h' off b o hi =>
    simp only [Lite.fz]
    split
    · rename_i e
      subst e
      obtain ⟨h1, h2⟩ := hrow b o hi
      have key : ∀ i, i < (cs.drop off).length → ∃ u, w.cell? ⟨b, o + off + i, none⟩ = some u ∧ ∀ (hh : i < (cs.drop off).length), VR w per' [] (cs.drop off)[i] u := by
        intro i hi2
        have : off + i < cs.length := by simp at hi2; omega
        obtain ⟨u, k1, k2⟩ := h2 (off + i) this
        exact ⟨u, by rw [← k1, Nat.add_assoc], fun _ => by rw [List.getElem_drop]; exact k2⟩
      obtain ⟨us, hus⟩ := skol key
      exact .pp us h1 (fun i hi2 => (hus i hi2).1) fun i hi2 => (hus i hi2).2 hi2
    · exact .ptr hi
  | pp vs h1 h2 h3 _ => exact .pp vs (hp _ h1) h2 fun i hi => (h3 i hi).step (Step.refl _ _) hp (fun _ _ h => h)
  | nils => exact .nils
  | @sl ι sz h' off len b o cap hi hl hr =>
    simp only [Lite.fz]
    split
    · rename_i e
      subst e
      split
      · rename_i hle
        obtain ⟨h1, h2⟩ := hrow b o hi
        have hlen : ((cs.drop off).take (len * sz)).length = len * sz := by simp; omega
        have key : ∀ i, i < len * sz → ∃ u, w.cell? ⟨b, o + off + i, none⟩ = some u ∧ ∀ (hh : i < ((cs.drop off).take (len * sz)).length), VR w per' [] ((cs.drop off).take (len * sz))[i] u := by
          intro i hi2
          obtain ⟨u, k1, k2⟩ := h2 (off + i) (by omega)
          exact ⟨u, by rw [← k1, Nat.add_assoc], fun _ => by rw [List.getElem_take, List.getElem_drop]; exact k2⟩
        obtain ⟨us, hus⟩ := skol key
        exact .ps us h1 hlen hl (fun i hi2 => (hus i (by rw [hlen] at hi2; exact hi2)).1) fun i hi2 => (hus i (by rw [hlen] at hi2; exact hi2)).2 hi2
      · exact .dead _
    · exact .sl hi hl hr
  | @slz ι sz h' off a =>
    simp only [Lite.fz]
    split
    · split
      · simp only [Nat.zero_mul, List.take_zero]; exact .psz
      · exact .dead _
    · exact .slz
  | psz => exact .psz
  | ps vs h1 h2 h3 h4 h5 _ => exact .ps vs (hp _ h1) h2 h3 h4 fun i hi => (h5 i hi).step (Step.refl _ _) hp (fun _ _ h => h)
  | nilf => exact .nilf
  | yld l => exact .yld l
  | fn hn hv ih => simp only [Lite.fz, fzL_eq]; exact .fnC (by simpa using hn) (fun i hi => by rw [List.getElem_map]; exact ih i (by simpa using hi) hrow) (isUnd_map fz_und _)
  | agg hn hv ih => simp only [Lite.fz, fzL_eq]; exact .agg (by simpa using hn) fun i hi => by rw [List.getElem_map]; exact ih i (by simpa using hi) hrow
  | tup hn hv ih => simp only [Lite.fz, fzL_eq]; exact .tup (by simpa using hn) fun i hi => by rw [List.getElem_map]; exact ih i (by simpa using hi) hrow

theorem Wk.freeze {N : Dim} {F : Fr} {H : Hp} {h : Nat} {cs : List LV} (hm : N.m ≤ h) (hh : H[h]? = some (some cs)) (hf : hfreeL cs = true) : Wk N (fzF h cs F) ((H.map (fzR h cs)).set h none) F H := by
  intro cx a w hsr
  obtain ⟨ι, per, hst⟩ := hsr.st
  let per' : Nat → Prop := fun b => per b ∨ ∃ o, ι[h]? = some (some (b, o))
  have hp : ∀ b, per b → per' b := fun b hb => .inl hb
  have hrow : ∀ b o, ι[h]? = some (some (b, o)) → per' b ∧ ∀ i (hi : i < cs.length), ∃ u, w.cell? ⟨b, o + i, none⟩ = some u ∧ VR w per' [] cs[i] u := by
    intro b o hi
    refine ⟨.inr ⟨o, hi⟩, fun i hi2 => ?_⟩
    obtain ⟨c, e, k1, k2, k3, k4, k5⟩ := hst.rep.block hh hi
    refine ⟨c.getD (o + i) undef, ?_, ((k5 i hi2).step (Step.refl _ _) hp (ι' := ι) (fun _ _ h => h)).hfree (hfreeL_get hf i hi2)⟩
    rw [cell_of_blk k3.1]
    have : o + i < c.size := by omega
    simp [this]
  have fzv : ∀ {x : LV} {v : Value}, VR w per ι x v → VR w per' ι (fz h cs x) v := fun hv => hv.fz hp hrow
  have old : ∀ (k : Nat) (ds : List LV), ((H.map (fzR h cs)).set h none)[k]? = some (some ds) → k ≠ h ∧ ∃ d, H[k]? = some (some d) ∧ ds = fzL h cs d := by
    intro k ds hk
    rw [List.getElem?_set] at hk
    split at hk
    · split at hk
      · simp at hk
      · cases hk
    · rename_i hne
      rw [List.getElem?_map] at hk
      cases hx : H[k]? with
      | none => rw [hx] at hk; cases hk
      | some y =>
        rw [hx] at hk
        cases y with
        | none => cases hk
        | some d => exact ⟨fun e => hne e.symm, d, rfl, (Option.some.inj (Option.some.inj hk)).symm⟩
  refine .of (ι := ι) (per := per') ⟨⟨by simp [hst.rep.len], fun b hb => ?_, fun k ds hk => ?_, fun k k' ds ds' b o b' o' hk hk' hi hi' hbb => ?_⟩, fun b hb => ?_, fun b hb => .inl (hst.p2 b hb), fun t => ?_, hst.size, hst.defers, hst.below, hst.bs, hst.grow⟩
  · rcases hb with hb | ⟨o, hb⟩
    · exact hst.rep.perlt b hb
    · obtain ⟨c, e, k1, k2, k3, _⟩ := hst.rep.block hh hb
      exact lt_of_get k3.1
  · obtain ⟨hne, d, hd, rfl⟩ := old k ds hk
    rcases hst.rep.live k d hd with ⟨h2, h3⟩ | ⟨b, o, c, e, h2, h3, h4, h5, h6, h7⟩
    · subst h3; exact .inl ⟨h2, rfl⟩
    · refine .inr ⟨b, o, c, e, h2, h3, fun hp => ?_, h5, by simpa [fzL_eq] using h6, fun i hi => ?_⟩
      · rcases hp with hp | ⟨o', hp⟩
        · exact h4 hp
        · exact hne (hst.rep.inj k h d cs b o b o' hd hh h2 hp rfl)
      · simp only [fzL_eq, List.getElem_map]
        exact fzv (h7 i (by simpa [fzL_eq] using hi))
  · obtain ⟨_, d, hd, _⟩ := old k ds hk
    obtain ⟨_, d', hd', _⟩ := old k' ds' hk'
    exact hst.rep.inj k k' d d' b o b' o' hd hd' hi hi' hbb
  · rcases hb with hb | ⟨o, hb⟩
    · exact hst.p1 b hb
    · obtain ⟨c, e, k1, _⟩ := hst.rep.block hh hb
      exact .inr k1
  · rw [fget_fzF]
    exact fzv (hst.fr t)

/-! ### What a call has made and nobody knows any more -/
mutual
def hlt (m : Nat) : LV → Bool
  | .ptr h _ => Nat.blt h m
  | .sl _ h _ _ => Nat.blt h m
  | .fn _ cs => hltL m cs
  | .agg cs => hltL m cs
  | .tup cs => hltL m cs
  | _ => true
def hltL (m : Nat) : List LV → Bool
  | [] => true
  | c :: r => hlt m c && hltL m r
end
def hltH (m : Nat) : Hp → Bool
  | [] => true
  | none :: r => hltH m r
  | some cs :: r => hltL m cs && hltH m r

theorem hltL_get {m : Nat} {cs : List LV} (h : hltL m cs = true) : ∀ i (hi : i < cs.length), hlt m cs[i] = true := by
  induction cs with
  | nil => intro i hi; simp at hi
  | cons c r ih =>
    simp only [hltL, Bool.and_eq_true] at h
    intro i hi
    cases i with
    | zero => exact h.1
    | succ i => exact ih h.2 i (by simpa using hi)

theorem hltH_get {m : Nat} {H : Hp} (h : hltH m H = true) {k : Nat} {cs : List LV} (hk : H[k]? = some (some cs)) : hltL m cs = true := by
  induction H generalizing k with
  | nil => simp at hk
  | cons p r ih =>
    cases p with
    | none =>
      cases k with
      | zero => simp at hk
      | succ k => exact ih (by simpa [hltH] using h) (by simpa using hk)
    | some ds =>
      simp only [hltH, Bool.and_eq_true] at h
      cases k with
      | zero => simp at hk; subst hk; exact h.1
      | succ k => exact ih h.2 (by simpa using hk)

theorem VR.hlt {w : World} {per : Nat → Prop} {ι : Pl} {m : Nat} {x : LV} {v : Value} (hv : VR w per ι x v) : Lite.hlt m x = true → VR w per (ι.take m) x v := by
  have tk : ∀ {ι : Pl} {h : Nat} {b : Nat × Nat}, Nat.blt h m = true → ι[h]? = some (some b) → (ι.take m)[h]? = some (some b) := by
    intro ι h b hb hi
    have : h < m := by simpa using hb
    rw [List.getElem?_take, if_pos this]; exact hi
  induction hv with
  | dead v => intro _; exact .dead v
  | und => intro _; exact .und
  | bool b => intro _; exact .bool b
  | int k n => intro _; exact .int k n
  | str s => intro _; exact .str s
  | nilp => intro _; exact .nilp
  | ptr hi => intro h; exact .ptr (tk (by simpa [Lite.hlt] using h) hi)
  | pp vs h1 h2 h3 _ => intro _; exact .pp vs h1 h2 h3
  | nils => intro _; exact .nils
  | sl h1 h2 h3 => intro h; exact .sl (tk (by simpa [Lite.hlt] using h) h1) h2 h3
  | slz => intro _; exact .slz
  | psz => intro _; exact .psz
  | ps vs h1 h2 h3 h4 h5 _ => intro _; exact .ps vs h1 h2 h3 h4 h5
  | nilf => intro _; exact .nilf
  | yld l => intro _; exact .yld l
  | fn hn hv ih => intro h; exact .fn hn fun i hi => ih i hi (hltL_get (by simpa [Lite.hlt] using h) i hi)
  | agg hn hv ih => intro h; exact .agg hn fun i hi => ih i hi (hltL_get (by simpa [Lite.hlt] using h) i hi)
  | tup hn hv ih => intro h; exact .tup hn fun i hi => ih i hi (hltL_get (by simpa [Lite.hlt] using h) i hi)

theorem LC.cut {P : Program} {f : Nat} {args : List LV} {H : Hp} {R R' : LV → Hp → Prop} (h : LC P f args H R) (hr : ∀ x G, R x G → hlt H.length x = true ∧ hltH H.length (G.take H.length) = true ∧ R' x (G.take H.length)) : LC P f args H R' := by
  refine ⟨h.1, fun kp per ι w vs h1 h2 h3 h4 => (h.2 kp per ι w vs h1 h2 h3 h4).mono fun e w' ⟨v, res, G, ι', per', g1, g2, g3, g4, g5, g6, g7, g8⟩ => ?_⟩
  obtain ⟨k1, k2, k3⟩ := hr _ _ g2
  have old : ∀ (k : Nat) (cs : List LV), (G.take H.length)[k]? = some (some cs) → k < H.length ∧ G[k]? = some (some cs) := by
    intro k cs hk
    rw [List.getElem?_take] at hk
    split at hk
    · rename_i hl; exact ⟨hl, hk⟩
    · cases hk
  have oldι : ∀ (k : Nat) (y : Option (Nat × Nat)), (ι'.take H.length)[k]? = some y → ι'[k]? = some y := by
    intro k y hk
    rw [List.getElem?_take] at hk
    split at hk
    · exact hk
    · cases hk
  refine ⟨v, res, G.take H.length, ι'.take H.length, per', g1, k3, g3, ⟨by simp [g4.len], g4.perlt, fun k cs hk => ?_, fun k k' cs cs' b o b' o' hk hk' hi hi' hbb => ?_⟩, g5.hlt k1, g6, g7, fun j hj => ?_⟩
  · obtain ⟨hl, hk'⟩ := old k cs hk
    have tk : ∀ y, ι'[k]? = some y → (ι'.take H.length)[k]? = some y := fun y hy => by rw [List.getElem?_take, if_pos hl]; exact hy
    rcases g4.live k cs hk' with ⟨q1, q2⟩ | ⟨b, o, c, e, q1, q2, q3, q4, q5, q6⟩
    · exact .inl ⟨tk _ q1, q2⟩
    · exact .inr ⟨b, o, c, e, tk _ q1, q2, q3, q4, q5, fun i hi => (q6 i hi).hlt (hltL_get (hltH_get k2 hk) i hi)⟩
  · exact g4.inj k k' cs cs' b o b' o' (old k cs hk).2 (old k' cs' hk').2 (oldι _ _ hi) (oldι _ _ hi') hbb
  · have : j < H.length := by rw [← h1.len]; exact hj
    rw [List.getElem?_take, if_pos this]; exact g8 j hj

end Go.Lite

/- Lite, part O: running code at closed arguments. -/
namespace Go.Lite
open Go Go.RowKit
set_option linter.unusedVariables false

inductive XE where
  | normal
  | exit (id : Nat)
  | ret

def XE.to : XE → Exit
  | .normal => .normal
  | .exit id => .exit id
  | .ret => .ret

def evStep (τ : TT) (call : Nat → List LV → Hp → Option (LV × Hp)) (o : Op) (F : Fr) (H : Hp) : Option (LV × Hp) :=
  match pureOp τ F o with
  | some x => some (x, H)
  | none => match loadOp τ F H o with
    | some x => some (x, H)
    | none => match o with
      | .call ⟨.value g, args, _⟩ => match evalO F g with
        | .fn f cap => (match isUnd cap with | true => call f (cap.drop 1 ++ args.toList.map (evalO F)) H | false => call f (args.toList.map (evalO F) ++ cap) H)
        | _ => none
      | o => effN τ F H o

def evOps (τ : TT) (call : Nat → List LV → Hp → Option (LV × Hp)) : List SO → Fr → Hp → Option (Fr × Hp)
  | [], F, H => some (F, H)
  | o :: r, F, H => match wantS o.g F with
    | some true => (match evStep τ call o.op F H with | some (x, H') => evOps τ call r (lput o.dst x F) H' | none => none)
    | some false => evOps τ call r (lput o.dst .und F) H
    | none => none

/-- One operation of a region that draws its order: what it does, how many rows it makes. -/
def evDA (τ : TT) (call : Nat → List LV → Hp → Option (LV × Hp)) (s : SO) (F : Fr) (H : Hp) : Option (DA × Nat) :=
  match wantS s.g F with
  | some true => (match valP τ F H s.op with
    | some x => some (⟨s.dst, x, [], guardSlot s.g ++ slotsOf s.op, valRows F s.op, []⟩, 0)
    | none => match s.op with
      | .call ⟨.value g, args, _⟩ => (match evalO F g with
        | .fn f cap => (match (if isUnd cap = false then call f ((args.toList.map (evalO F) ++ cap).map (snap H 3)) [] else none) with
          | some (x, X0) => if rigid x then some (⟨s.dst, x, [], guardSlot s.g ++ slotsOf s.op, (args.toList.map (evalO F) ++ cap).flatMap (reach H 3), []⟩, 0) else
            if psfree x && psfreeH X0 then some (⟨s.dst, ren (H.length + ·) x, wsOf H.length (X0.map (renR (H.length + ·))), guardSlot s.g ++ slotsOf s.op, (args.toList.map (evalO F) ++ cap).flatMap (reach H 3), (wsOf H.length (X0.map (renR (H.length + ·)))).map (·.1)⟩, X0.length) else none
          | none => none)
        | _ => none)
      | op => (match effOp τ F H H.length op with
        | some (x, ws) => some (⟨s.dst, x, ws, guardSlot s.g ++ slotsOf s.op, lookRows F s.op, if makes s.op then [H.length] else []⟩, if makes s.op then 1 else 0)
        | none => none))
  | some false => some (⟨s.dst, .und, [], guardSlot s.g, [], []⟩, 0)
  | none => none

def evDraw (τ : TT) (call : Nat → List LV → Hp → Option (LV × Hp)) : List SO → Fr → Hp → Option (List DA × Fr × Hp)
  | [], F, H => some ([], F, H)
  | s :: r, F, H => match evDA τ call s F H with
    | some (c, e) => if c.rs.all (Nat.blt · H.length) && c.keys.all (Nat.blt · (H.length + e)) then
        (match evDraw τ call r (lput s.dst c.x F) (applyWs (H ++ List.replicate e none) c.ws) with
        | some (cs, F', H') => some (c :: cs, F', H')
        | none => none) else none
    | none => none

/-- The slots of F, each once. -/
def rm (s : Nat) : Fr → Fr
  | [] => []
  | (t, v) :: r => cond (Nat.beq t s) (rm s r) ((t, v) :: rm s r)
def dd : Nat → Fr → Fr
  | 0, F => F
  | _, [] => []
  | n + 1, (t, v) :: r => (t, v) :: dd n (rm t r)

theorem fget_rm (s : Nat) (F : Fr) (t : Nat) : fget (rm s F) t = if s = t then .dead else fget F t := by
  induction F with
  | nil => simp [rm, fget]
  | cons p r ih =>
    obtain ⟨u, v⟩ := p
    simp only [rm]
    by_cases h : u = s
    · subst h
      simp only [Nat.beq_refl, cond_true, ih, fget_cons]
      split <;> simp_all
    · have : Nat.beq u s = false := by
        rw [← Bool.not_eq_true]; intro h2; exact h (Nat.eq_of_beq_eq_true h2)
      rw [this]
      simp only [cond_false, fget_cons, ih]
      by_cases h2 : u = t
      · subst h2
        rw [if_pos rfl, if_neg (fun e => h e.symm), if_pos rfl]
      · rw [if_neg h2, if_neg h2]

theorem fget_dd (n : Nat) : ∀ (F : Fr) (t : Nat), fget (dd n F) t = fget F t := by
  induction n with
  | zero => intro F t; simp [dd]
  | succ n ih =>
    intro F t
    cases F with
    | nil => simp [dd]
    | cons p r =>
      obtain ⟨s, v⟩ := p
      simp only [dd, fget_cons]
      split
      · rfl
      · rename_i h
        rw [ih, fget_rm, if_neg h]

def evS (τ : TT) (call : Nat → List LV → Hp → Option (LV × Hp)) : Nat → SC → Fr → Hp → Option (XE × Fr × Hp)
  | 0, _, _, _ => none
  | n + 1, s, F, H => match s with
    | .skip => some (.normal, F, H)
    | .reg ops => (match evOps τ call ops F H with | some (F, H) => some (.normal, F, H) | none => none)
    | .regd ops af => (match evDraw τ call ops F H with | some (cs, F, H) => if okB af cs then some (.normal, F, H) else none | none => none)
    | .seq a b => (match evS τ call n a F H with
      | some (.normal, F, H) => evS τ call n b F H
      | r => r)
    | .cond c a b => (match evalO F c with
      | .bool true => evS τ call n a F H
      | .bool false => evS τ call n b F H
      | _ => none)
    | .block id c => (match evS τ call n c F H with
      | some (.exit id', F, H) => if id' = id then some (.normal, F, H) else some (.exit id', F, H)
      | r => r)
    | .loop c => (match evS τ call n c F H with
      | some (.normal, F, H) => evS τ call n (.loop c) (dd 300 F) H
      | r => r)
    | .scope c => evS τ call n c F H
    | .exit id => some (.exit id, F, H)
    | .ret => some (.ret, F, H)
    | .rf _ _ _ _ => none

def find (tbl : List (Nat × SF)) (f : Nat) : Option SF :=
  match tbl with
  | [] => none
  | (g, s) :: r => cond (Nat.beq g f) (some s) (find r f)

def okT (P : Program) : List (Nat × SF) → Prop
  | [] => True
  | (f, s) :: r => slimF P f = some s ∧ okT P r

theorem find_ok {P : Program} : ∀ (tbl : List (Nat × SF)), okT P tbl → ∀ f sf, find tbl f = some sf → slimF P f = some sf := by
  intro tbl
  induction tbl with
  | nil => intro _ f sf h; cases h
  | cons p r ih =>
    obtain ⟨g, s⟩ := p
    intro hok f sf h
    simp only [find] at h
    cases hb : Nat.beq g f with
    | true =>
      rw [hb] at h
      have := Nat.eq_of_beq_eq_true hb
      subst this
      obtain rfl := Option.some.inj h
      exact hok.1
    | false => rw [hb] at h; exact ih hok.2 f sf h

/-- What a call has made and nobody knows any more is forgotten. -/
def cutH (m : Nat) (x : LV) (H : Hp) : Hp := if Nat.beq H.length m then H else if hlt m x && hltH m (H.take m) then H.take m else H

theorem LC.cutH {P : Program} {f : Nat} {args : List LV} {H H1 : Hp} {x : LV} (h : LC P f args H fun y G => y = x ∧ G = H1) : LC P f args H fun y G => y = x ∧ G = Lite.cutH H.length x H1 := by
  unfold Lite.cutH
  split
  · exact h
  · split
    · rename_i hc
      simp only [Bool.and_eq_true] at hc
      exact h.cut fun y G ⟨e1, e2⟩ => by subst e1; subst e2; exact ⟨hc.1, hc.2, rfl, rfl⟩
    · exact h

/-- A call at closed arguments. -/
def evF (τ : TT) (tbl : List (Nat × SF)) (n : Nat) : Nat → Nat → List LV → Hp → Option (LV × Hp)
  | 0, _, _, _ => none
  | d + 1, f, args, H => match find tbl f with
    | some sf => if args.length ≤ sf.n then
        (match evS τ (evF τ tbl n d) n sf.code (frameOf 0 args) H with
        | some (.exit _, _, _) => none
        | some (_, F, H1) => (match resS τ sf.rs F H1 with | some x => some (x, cutH H.length x H1) | none => none)
        | none => none) else none
    | none => none

section
variable {P : Program} {τ : TT} (hτ : τ = ttOf P) {N : Dim} {call : Nat → List LV → Hp → Option (LV × Hp)} (hm : P.follows .mixedOrders = true) (hcall : ∀ f args H0 x H, call f args H0 = some (x, H) → LC P f args H0 fun y G => y = x ∧ G = H)
include hτ hcall

theorem evStep_sound {o : Op} {F : Fr} {H H' : Hp} {x : LV} (h : evStep τ call o F H = some (x, H')) {K : LV → Fr → Hp → Prop} (hK : K x F H') : stepOp P o K F H := by
  subst hτ
  unfold evStep at h
  unfold stepOp
  split at h
  · rename_i y hy
    simp only [Option.some.injEq, Prod.mk.injEq] at h
    obtain ⟨rfl, rfl⟩ := h
    (try simp only [hy]); exact hK
  · rename_i hy
    try simp only [hy]
    split at h
    · rename_i z hz
      simp only [Option.some.injEq, Prod.mk.injEq] at h
      obtain ⟨rfl, rfl⟩ := h
      (try simp only [hz]); exact hK
    · rename_i hz
      (try simp only [hz])
      split at h
      · rename_i g args tys
        have he : effN (ttOf P) F H (.call ⟨.value g, args, tys⟩) = none := rfl
        (try simp only [he])
        split at h
        · rename_i f cap hg
          (try simp only [hg])
          cases hu : isUnd cap with
          | true =>
            rw [hu] at h
            (try simp only [callArgs_on hu])
            exact .whole ((hcall _ _ _ _ _ h).mono fun y' G' ⟨e1, e2⟩ => by rw [e1, e2]; exact hK)
          | false =>
            rw [hu] at h
            (try simp only [callArgs_off hu])
            exact .whole ((hcall _ _ _ _ _ h).mono fun y' G' ⟨e1, e2⟩ => by rw [e1, e2]; exact hK)
        · cases h
      · rw [h]
        exact hK

theorem evOps_sound : ∀ (l : List SO) (F F' : Fr) (H H' : Hp), evOps τ call l F H = some (F', H') → ∀ K : Fr → Hp → Prop, K F' H' → OpsW P N l K F H := by
  intro l
  induction l with
  | nil =>
    intro F F' H H' h K hK
    simp only [evOps, Option.some.injEq, Prod.mk.injEq] at h
    obtain ⟨rfl, rfl⟩ := h
    exact .nil hK
  | cons o r ih =>
    intro F F' H H' h K hK
    simp only [evOps] at h
    split at h
    · rename_i e
      split at h
      · rename_i x H1 h1
        exact .step e (evStep_sound hτ hcall h1 (ih _ _ _ _ h K hK))
      · cases h
    · rename_i e
      exact .skip e (ih _ _ _ _ h K hK)
    · cases h

theorem evDA_sound {s : SO} {F : Fr} {H : Hp} {c : DA} {e : Nat} (h : evDA τ call s F H = some (c, e)) : SFact P s F H c ∧ ∀ x ∈ c.nw, H.length ≤ x ∧ x < H.length + e := by
  subst hτ
  unfold evDA at h
  split at h
  · rename_i hw
    split at h
    · rename_i x hx
      simp only [Option.some.injEq, Prod.mk.injEq] at h
      obtain ⟨rfl, rfl⟩ := h
      exact ⟨.val hw hx, fun x hx => by simp at hx⟩
    · split at h
      · rename_i g args tys hop
        split at h
        · rename_i f cap hg
          split at h
          · rename_i x G hc0
            have hu : isUnd cap = false := by
              rcases Decidable.em (isUnd cap = false) with e | e
              · exact e
              · rw [if_neg e] at hc0; cases hc0
            have hc := hc0
            rw [if_pos hu] at hc
            clear hc0
            split at h
            · rename_i hr
              simp only [Option.some.injEq, Prod.mk.injEq] at h
              obtain ⟨rfl, rfl⟩ := h
              exact ⟨.quiet hw hop hg hu (hcall _ _ _ _ _ hc) (fun y G' e => e.1) hr, fun x hx => by simp at hx⟩
            · split at h
              · rename_i hps
                rw [Bool.and_eq_true] at hps
                simp only [Option.some.injEq, Prod.mk.injEq] at h
                obtain ⟨rfl, rfl⟩ := h
                refine ⟨.fresh hw hop hg hu (hcall _ _ _ _ _ hc) (fun y G' e => e) hps.1 hps.2 H.length, fun x hx => ?_⟩
                have := (keys_wsOf _ _ _).1 hx
                simpa using this
              · cases h
          · cases h
        · cases h
      · split at h
        · rename_i x ws hx
          simp only [Option.some.injEq, Prod.mk.injEq] at h
          obtain ⟨rfl, rfl⟩ := h
          refine ⟨.eff hw hx, fun x hx => ?_⟩
          simp only at hx
          split at hx
          · rename_i hm
            rw [if_pos hm]
            simp only [List.mem_singleton] at hx
            omega
          · simp at hx
        · cases h
  · rename_i hw
    simp only [Option.some.injEq, Prod.mk.injEq] at h
    obtain ⟨rfl, rfl⟩ := h
    exact ⟨.skip hw, fun x hx => by simp at hx⟩
  · cases h

theorem evDraw_sound : ∀ (l : List SO) (F F' : Fr) (H H' : Hp) (cs : List DA), evDraw τ call l F H = some (cs, F', H') → Chain P l F H cs F' H' := by
  intro l
  induction l with
  | nil =>
    intro F F' H H' cs h
    simp only [evDraw, Option.some.injEq, Prod.mk.injEq] at h
    obtain ⟨rfl, rfl, rfl⟩ := h
    exact .nil
  | cons s r ih =>
    intro F F' H H' cs h
    simp only [evDraw] at h
    split at h
    · rename_i c e hc
      split at h
      · rename_i hb
        simp only [Bool.and_eq_true, List.all_eq_true] at hb
        split at h
        · rename_i cs' F1 H1 h1
          simp only [Option.some.injEq, Prod.mk.injEq] at h
          obtain ⟨rfl, rfl, rfl⟩ := h
          obtain ⟨k1, k2⟩ := evDA_sound hτ hcall hc
          exact .cons e k1 (fun x hx => by simpa using hb.1 x hx) (fun x hx => by simpa using hb.2 x hx) k2 (ih _ _ _ _ _ h1)
        · cases h
      · cases h
    · cases h

include hm in
theorem evS_sound : ∀ (n : Nat) (s : SC) (F F' : Fr) (H H' : Hp) (e : XE), evS τ call n s F H = some (e, F', H') → ∀ Q : LPost, Q e.to F' H' → Lw P N s Q F H := by
  intro n
  induction n using Nat.strongRecOn with
  | _ n0 ih0 =>
    intro s F F' H H' e h Q hQ
    cases n0 with
    | zero => cases h
    | succ n =>
    have ih := ih0 n (Nat.lt_succ_self n)
    cases s with
    | rf => simp [evS] at h
    | skip =>
      simp only [evS, Option.some.injEq, Prod.mk.injEq] at h
      obtain ⟨rfl, rfl, rfl⟩ := h
      exact .skip hQ
    | exit id =>
      simp only [evS, Option.some.injEq, Prod.mk.injEq] at h
      obtain ⟨rfl, rfl, rfl⟩ := h
      exact .exit hQ
    | ret =>
      simp only [evS, Option.some.injEq, Prod.mk.injEq] at h
      obtain ⟨rfl, rfl, rfl⟩ := h
      exact .ret hQ
    | reg ops =>
      simp only [evS] at h
      split at h
      · rename_i F1 H1 h1
        simp only [Option.some.injEq, Prod.mk.injEq] at h
        obtain ⟨rfl, rfl, rfl⟩ := h
        exact .ops (evOps_sound hτ hcall _ _ _ _ _ h1 _ hQ)
      · cases h
    | regd ops af =>
      simp only [evS] at h
      split at h
      · rename_i cs F1 H1 h1
        split at h
        · rename_i hok
          simp only [Option.some.injEq, Prod.mk.injEq] at h
          obtain ⟨rfl, rfl, rfl⟩ := h
          exact .regd hm (evDraw_sound hτ hcall _ _ _ _ _ _ h1) hok hQ
        · cases h
      · cases h
    | scope c =>
      simp only [evS] at h
      refine .scope (ih _ _ _ _ _ _ h _ ?_)
      cases e <;> exact hQ
    | seq a b =>
      simp only [evS] at h
      refine .seq ?_
      split at h
      · rename_i F1 H1 h1
        exact ih _ _ _ _ _ _ h1 _ (ih _ _ _ _ _ _ h _ hQ)
      · rename_i hne
        refine ih _ _ _ _ _ _ h _ ?_
        cases e with
        | normal => exact absurd h (hne F' H')
        | _ => exact hQ
    | cond c a b =>
      simp only [evS] at h
      split at h
      · rename_i hc
        exact .cond hc (fun _ => ih _ _ _ _ _ _ h _ hQ) (fun e => Bool.noConfusion e)
      · rename_i hc
        exact .cond hc (fun e => Bool.noConfusion e) (fun _ => ih _ _ _ _ _ _ h _ hQ)
      · cases h
    | block id c =>
      simp only [evS] at h
      refine .block ?_
      split at h
      · rename_i id' F1 H1 h1
        refine ih _ _ _ _ _ _ h1 _ ?_
        show blockQ id Q (.exit id') F1 H1
        simp only [blockQ]
        split at h
        · rename_i he
          simp only [Option.some.injEq, Prod.mk.injEq] at h
          obtain ⟨rfl, rfl, rfl⟩ := h
          rw [if_pos he]; exact hQ
        · rename_i he
          simp only [Option.some.injEq, Prod.mk.injEq] at h
          obtain ⟨rfl, rfl, rfl⟩ := h
          rw [if_neg he]; exact hQ
      · rename_i hne
        refine ih _ _ _ _ _ _ h _ ?_
        cases e with
        | exit id' => exact absurd h (hne id' F' H')
        | normal => exact hQ
        | ret => exact hQ
    | loop c =>
      refine .loop (α := Nat × Fr × Hp) (fun i => i.1 < n + 1 ∧ evS τ call (i.1 + 1) (.loop c) i.2.1 i.2.2 = some (e, F', H')) (·.1) (·.2.1) (·.2.2) ⟨(n, F, H), ⟨Nat.lt_succ_self n, h⟩, .refl _ _⟩ fun i hi => ?_
      obtain ⟨m, F1, H1⟩ := i
      obtain ⟨hmn, hev⟩ := hi
      have ihm := ih0 m hmn
      simp only [evS] at hev
      split at hev
      · rename_i F2 H2 h2
        refine ihm _ _ _ _ _ _ h2 _ ?_
        cases m with
        | zero => cases hev
        | succ m => exact ⟨(m, dd 300 F2, H2), ⟨by omega, hev⟩, Nat.lt_succ_self m, .frame fun t => .inl (fget_dd 300 F2 t)⟩
      · rename_i hne
        refine ihm _ _ _ _ _ _ hev _ ?_
        cases e with
        | normal => exact absurd hev (hne F' H')
        | exit id => exact hQ
        | ret => exact hQ

end

/-- A call at closed arguments comes to what the run says. -/
theorem evF_sound {P : Program} {τ : TT} (hτ : τ = ttOf P) (hm : P.follows .mixedOrders = true) {tbl : List (Nat × SF)} (ht : ∀ f sf, find tbl f = some sf → slimF P f = some sf) {n : Nat} : ∀ (d f : Nat) (args : List LV) (H0 : Hp) (x : LV) (H : Hp),
    evF τ tbl n d f args H0 = some (x, H) → LC P f args H0 fun y G => y = x ∧ G = H := by
  intro d
  induction d with
  | zero => intro f args H0 x H h; cases h
  | succ d ih =>
    intro f args H0 x H h
    simp only [evF] at h
    split at h
    · rename_i sf hsf
      split at h
      · rename_i ha
        split at h
        · cases h
        · rename_i e F1 H1 hne he
          split at h
          · rename_i y hy
            rw [hτ] at hy
            simp only [Option.some.injEq, Prod.mk.injEq] at h
            obtain ⟨rfl, rfl⟩ := h
            refine LC.cutH (lc (ht f sf hsf) ha (evS_sound hτ hm ih n sf.code _ _ _ _ e he _ ?_))
            have key : ocase (resS (ttOf P) sf.rs F1 H1) (fun z => z = y ∧ H1 = H1) := by rw [hy]; exact ⟨rfl, rfl⟩
            cases e with
            | normal => exact key
            | ret => exact key
            | exit id => exact absurd rfl (hne id)
          · cases h
        · cases h
      · cases h
    · cases h

end Go.Lite

/- Lite, part P: small facts for the walks. -/
namespace Go.Lite
open Go

end Go.Lite
