/- Lite, parts T U V TM. -/
import Derived.Test.YtbaepacihkgalaaLists
import Derived.ChangeSame
import Derived.WalkKit
import Derived.ProofKit
import Derived.OpenShut
import Derived.Carry
set_option linter.unusedVariables false
set_option linter.unusedSimpArgs false

/- Lite, part T: the way from a contract to a law. -/
namespace Go.Lite
open Go Go.RowKit Go.ChangeShapes
set_option linter.unusedVariables false

section
variable {H : Type} {enc : TypeId × Value → H} {P : Program}

/-- Behind a call that leaves all that was there as it was. -/
theorem post_of_below {f : Func} {s : ChangeSpec} {apart fresh handsOn again : Bool} {W W' : World} {args : Array Value} {v : Value} {ds gs : List (DataW H)} {before pa pv : List MemPlace}
    (hb : Below W.heap.size W W')
    (hW : DataW.Whole enc P f.params.toList s.vars apart W args.toList ds gs before)
    (hres : ∀ (b : Nat) (sp : Nat → Bool) (hd : Bool), DataW.TrodAll enc P W' b sp hd f.resultTypes.toList (v.resultList f.resultTypes.size) (s.fn H (ds ++ gs)).results [])
    (hargs : ∀ sp : Nat → Bool, (∀ p ∈ before, sp p.block = true) → DataW.TrodAll enc P W' 0 sp true f.params.toList args.toList (s.fn H (ds ++ gs)).args pa)
    (hvars : ∀ sp : Nat → Bool, (∀ p ∈ before, sp p.block = true) → DataW.TrodVars enc P W' sp s.vars (s.fn H (ds ++ gs)).vars pv)
    (hps : before = pa ++ pv)
    (hok : ∀ (j : Nat) (t : TypeId) (r : Value), f.resultTypes[j]? = some t → (v.resultList f.resultTypes.size)[j]? = some r → Value.okWide P W' .any 0 t r) :
    s.post enc P f apart fresh handsOn again W args v W' := by
  have hlt : ∀ p ∈ before, p.block < W.heap.size := fun p hp => hW.lt p hp
  have inb : ∀ p ∈ before, (fun b => decide (b < W.heap.size)) p.block = true := fun p hp => by simpa using hlt p hp
  refine ⟨ds, gs, before, [], pa, pv, hW, hres _ _ _, hargs _ inb, hvars _ inb, World.keptBut_mono (fun p hp => ⟨hp, ?_⟩) (hb.frame _), fun _ => ?_⟩
  · rw [hps, List.mem_append] at hp
    exact .inr hp
  · have hz := hW
    obtain ⟨_, _, _, _, _, hz, hn⟩ := hz
    refine ⟨hok, _, _, ([] ++ pa) ++ pv, ⟨[] ++ pa, pv, trodAll_append (hargs _ (fun _ _ => rfl)) (hres _ _ _), hvars _ (fun _ _ => rfl), rfl, fun b off hp => ?_, fun ha => ?_⟩, fun p hp _ => ?_⟩
    · have hp' := hp
      rw [List.nil_append, ← hps] at hp'
      rw [hb.frozen (hlt _ hp')]
      exact hz b off hp'
    · have := hn ha
      rw [hps] at this
      simpa using this
    · rw [hps]
      simpa using hp
end

/-- A law's walk from its contract. -/
theorem LC.law {P : Program} {f : Nat} {args : List LV} (h : LC P f args [] fun x _ => x = .bool true) {w : World} {vs : List Value} (hv : VL w [] (fun b => b < w.heap.size) args vs) :
    Calls P f vs.toArray w fun e w' => e = .returned (.bool true) ∧ Below w.heap.size w w' :=
  (h.2 (fun b => b < w.heap.size) (fun b => b < w.heap.size) [] w vs (.nil _ _ _ fun _ hb => hb) (fun _ hb => hb) (fun _ hb => hb) hv).mono fun e w' ⟨v, res, H', ι', per', h1, h2, h3, _, h5, _⟩ => by
    subst h1; subst h2
    cases h5
    exact ⟨rfl, h3.below⟩

theorem VL.nil' {w : World} {ι : Pl} {per : Nat → Prop} : VL w ι per [] [] := ⟨rfl, fun i hi => absurd hi (by simp)⟩
end Go.Lite

/- Lite, part U: what a law's arguments are, as plain values. -/
namespace Go.Lite
open Go Go.RowKit Go.ChangeShapes
set_option linter.unusedVariables false

/-- So many pieces of one shape, one behind the other. -/
def Rpt (S : List LV → Prop) : Nat → List LV → Prop
  | 0, ls => ls = []
  | n + 1, ls => ∃ p q, ls = p ++ q ∧ S p ∧ Rpt S n q

def Cat : List (List LV → Prop) → List LV → Prop
  | [], ls => ls = []
  | S :: r, ls => ∃ p q, ls = p ++ q ∧ S p ∧ Cat r q

/-- The cells of a value of this type. -/
def Shp (P : Program) : Nat → TypeId → List LV → Prop
  | 0, _, _ => False
  | n + 1, t, ls => match P.underlying t with
    | some .bool => ∃ b, ls = [.bool b]
    | some (.int k) => ∃ m, ls = [.int k m] ∧ (Lit.int k m).wf = true
    | some .string => ∃ s, ls = [.str s] ∧ s.size ≤ maxLen
    | some (.slice e) => ls = [.nils] ∨ ∃ len cs, ls = [.ps (P.cellsOf e) len cs] ∧ len ≤ maxLen ∧ Rpt (Shp P n e) len cs
    | some (.struct fs) => Cat (fs.toList.map fun f => Shp P n f.type) ls
    | some (.array m e) => Rpt (Shp P n e) m ls
    | _ => False

/-- Fields that lie one behind the other. -/
def tiled (P : Program) (ok : TypeId → Bool) : Nat → List Field → Nat → Bool
  | off, [], stop => off == stop
  | off, f :: r, stop => f.offset == off && ok f.type && tiled P ok (off + P.cellsOf f.type) r stop

/-- Types whose values are plain. -/
def plainT (P : Program) : Nat → TypeId → Bool
  | 0, _ => false
  | n + 1, t => match P.underlying t with
    | some .bool | some (.int _) | some .string => true
    | some (.slice e) => plainT P n e && decide (0 < P.cellsOf e)
    | some (.struct fs) => tiled P (plainT P n) 0 fs.toList (P.cellsOf t)
    | some (.array m e) => plainT P n e && (P.cellsOf t == m * P.cellsOf e)
    | _ => false

theorem mapM_opt {α β : Type} {f : α → Option β} : ∀ {l : List α} {ys : List β}, l.mapM f = some ys → ys.length = l.length ∧ ∀ (i : Nat) (x : α), l[i]? = some x → ∃ y, ys[i]? = some y ∧ f x = some y := by
  intro l
  induction l with
  | nil =>
    intro ys h
    rw [List.mapM_nil] at h
    obtain rfl := Option.some.inj h
    exact ⟨rfl, fun i x hx => by simp at hx⟩
  | cons a r ih =>
    intro ys h
    rw [List.mapM_cons] at h
    cases ha : f a with
    | none => simp [ha] at h
    | some y =>
      cases hr : r.mapM f with
      | none => simp [ha, hr] at h
      | some zs =>
        simp only [ha, hr, Option.pure_def, Option.bind_eq_bind, Option.bind_some] at h
        obtain rfl := Option.some.inj h
        obtain ⟨h1, h2⟩ := ih hr
        refine ⟨by simp [h1], fun i x hx => ?_⟩
        cases i with
        | zero =>
          obtain rfl := Option.some.inj hx
          exact ⟨y, rfl, ha⟩
        | succ i => exact h2 i x hx

theorem cells_some {w : World} {b : Nat} {a : Addr} {n : Nat} {us : List Value} (h : w.cells? b a n = some us) : us.length = n ∧ ∀ i, i < n → w.cell? (a.add i) = some (us.getD i undef) := by
  unfold World.cells? at h
  split at h
  · obtain ⟨h1, h2⟩ := mapM_opt h
    rw [List.length_range] at h1
    refine ⟨h1, fun i hi => ?_⟩
    obtain ⟨y, hy, hc⟩ := h2 i i (by rw [List.getElem?_range hi])
    rw [hc, List.getD_eq_getElem?_getD, hy]
    rfl
  · cases h

theorem cell_lt {w : World} {a : Addr} {v : Value} (h : w.cell? a = some v) : a.block < w.heap.size ∧ a.spot = none := by
  unfold World.cell? at h
  split at h
  · rename_i c e f hb
    constructor
    · exact lt_of_get hb
    · cases hs : a.spot with
      | none => rfl
      | some x => rw [hs] at h; simp at h
  · cases h

section
variable {w : World} {ι : Pl} {per : Nat → Prop}

theorem rpt_build {S : List LV → Prop} {c : Nat} : ∀ (m : Nat) (cs : List Value), cs.length = m * c →
    (∀ i, i < m → ∃ ls, S ls ∧ VL w ι per ls ((cs.drop (i * c)).take c)) → ∃ ls, Rpt S m ls ∧ VL w ι per ls cs := by
  intro m
  induction m with
  | zero =>
    intro cs hl _
    obtain rfl : cs = [] := List.eq_nil_of_length_eq_zero (by simpa using hl)
    exact ⟨[], rfl, VL.nil'⟩
  | succ m ih =>
    intro cs hl hp
    obtain ⟨p, hS, hv⟩ := hp 0 (by omega)
    rw [Nat.zero_mul, List.drop_zero] at hv
    rw [Nat.add_mul, Nat.one_mul] at hl
    obtain ⟨q, hq, hqv⟩ := ih (cs.drop c) (by rw [List.length_drop, hl]; omega) (fun i hi => by
      obtain ⟨ls, a, b⟩ := hp (i + 1) (by omega)
      refine ⟨ls, a, ?_⟩
      rw [List.drop_drop]
      rw [Nat.add_mul, Nat.one_mul, Nat.add_comm] at b
      exact b)
    refine ⟨p ++ q, ⟨p, q, rfl, hS, hq⟩, ?_⟩
    have := hv.append hqv
    rwa [List.take_append_drop] at this

theorem cat_build {P : Program} {ok : TypeId → Bool} {S : Field → List LV → Prop} {whole : List Value} : ∀ (fs : List Field) (off : Nat), tiled P ok off fs whole.length = true →
    (∀ f ∈ fs, ok f.type = true → ∃ ls, S f ls ∧ VL w ι per ls ((whole.drop f.offset).take (P.cellsOf f.type))) → ∃ ls, Cat (fs.map S) ls ∧ VL w ι per ls (whole.drop off) := by
  intro fs
  induction fs with
  | nil =>
    intro off ht _
    have : off = whole.length := by simpa [tiled] using ht
    subst this
    rw [List.drop_length]
    exact ⟨[], rfl, VL.nil'⟩
  | cons f r ih =>
    intro off ht hp
    simp only [tiled, Bool.and_eq_true, beq_iff_eq] at ht
    obtain ⟨⟨h1, h2⟩, h3⟩ := ht
    obtain ⟨p, hS, hv⟩ := hp f (by simp) h2
    obtain ⟨q, hq, hqv⟩ := ih _ h3 (fun g hg => hp g (by simp [hg]))
    refine ⟨p ++ q, ⟨p, q, rfl, hS, hq⟩, ?_⟩
    have := hv.append hqv
    rw [h1, ← List.drop_drop, List.take_append_drop] at this
    exact this
end

theorem VL.mkps {w : World} {per : Nat → Prop} {ls : List LV} {us : List Value} {a : Addr} {len cap c : Nat} (hv : VL w [] per ls us) (hc : us.length = len * c) (hl : len ≤ cap) (h0 : 0 < c)
    (hr : ∀ i, i < len * c → w.cell? (a.add i) = some (us.getD i undef)) (hp : ∀ b, b < w.heap.size → per b) : VR w per [] (.ps c len ls) (.slice (some a) len cap) := by
  by_cases hz : len = 0
  · subst hz
    have : ls = [] := List.eq_nil_of_length_eq_zero (by rw [hv.1, hc]; simp)
    subst this
    exact .psz
  · have hpos : 0 < len * c := Nat.mul_pos (by omega) h0
    have h1 := hr 0 hpos
    obtain ⟨hb, hs⟩ := cell_lt h1
    have e0 : a.add 0 = a := by simp [Addr.add]
    rw [e0] at hb hs
    obtain ⟨b, o, s⟩ := a
    simp only at hb hs
    subst hs
    refine .ps (fun i => us.getD i undef) (hp b hb) (by rw [hv.1, hc]) hl (fun i hi => ?_) (fun i hi => hv.2 i hi)
    have := hr i (by rw [← hc, ← hv.1]; exact hi)
    by_cases hi0 : i = 0
    · subst hi0; simpa [Addr.add] using this
    · simpa [Addr.add, hi0] using this

section
variable {H : Type} {enc : TypeId × Value → H} {P : Program} {w : World} {sp : Nat → Bool} {held : Bool} {t : TypeId} {fuel : Nat} {cs : List Value} {x : DataW H × List MemPlace}

theorem trod_b (hu : P.underlying t = some .bool) (h : DataW.trod enc P w 0 sp held (fuel + 1) t cs = some x) : ∃ b, cs = [.bool b] := by
  unfold DataW.trod at h
  rw [hu] at h
  split at h <;> simp_all

theorem trod_i {k : IntKind} (hu : P.underlying t = some (.int k)) (h : DataW.trod enc P w 0 sp held (fuel + 1) t cs = some x) : ∃ m, cs = [.int k m] ∧ (Lit.int k m).wf = true := by
  unfold DataW.trod at h
  rw [hu] at h
  split at h <;> simp_all

theorem trod_s (hu : P.underlying t = some .string) (h : DataW.trod enc P w 0 sp held (fuel + 1) t cs = some x) : ∃ s, cs = [.string s] ∧ s.size ≤ maxLen := by
  unfold DataW.trod at h
  rw [hu] at h
  split at h <;> simp_all

theorem trod_l {e : TypeId} (hu : P.underlying t = some (.slice e)) (h : DataW.trod enc P w 0 sp held (fuel + 1) t cs = some x) :
    cs = [.slice none 0 0] ∨ ∃ a len cap, cs = [.slice (some a) len cap] ∧ len ≤ cap ∧ cap ≤ maxLen ∧
      ∀ i, i < len → ∃ us y, w.cells? 0 (a.add (i * P.cellsOf e)) (P.cellsOf e) = some us ∧ DataW.trod enc P w 0 sp held fuel e us = some y := by
  unfold DataW.trod at h
  rw [hu] at h
  split at h
  all_goals try (simp_all; done)
  rename_i e' a len cap hc
  obtain rfl : e = e' := by simpa using hc
  refine .inr ⟨a, len, cap, rfl, ?_⟩
  split at h
  · rename_i hcond
    refine ⟨hcond.2.1, hcond.2.2, fun i hi => ?_⟩
    obtain ⟨ys, h3, h4⟩ := Option.bind_eq_some_iff.1 h
    obtain ⟨g1, g2⟩ := mapM_opt h3
    obtain ⟨y, hy, hf⟩ := g2 i i (by rw [List.getElem?_range hi])
    obtain ⟨us, hu1, hu2⟩ := Option.bind_eq_some_iff.1 hf
    exact ⟨us, y, hu1, hu2⟩
  · cases h

theorem trod_t {fs : Array Field} (hu : P.underlying t = some (.struct fs)) (h : DataW.trod enc P w 0 sp held (fuel + 1) t cs = some x) :
    cs.length = P.cellsOf t ∧ ∀ f ∈ fs.toList, ∃ y, DataW.trod enc P w 0 sp held fuel f.type ((cs.drop f.offset).take (P.cellsOf f.type)) = some y := by
  unfold DataW.trod at h
  simp only [hu] at h
  split at h
  · rename_i h1
    refine ⟨h1, ?_⟩
    obtain ⟨ys, h2, h3⟩ := Option.map_eq_some_iff.1 h
    obtain ⟨g1, g2⟩ := mapM_opt h2
    intro f hf
    obtain ⟨i, hi, rfl⟩ := List.mem_iff_getElem.1 hf
    obtain ⟨y, hy, he⟩ := g2 i _ (List.getElem?_eq_getElem hi)
    exact ⟨_, he⟩
  · cases h

theorem trod_a {m : Nat} {e : TypeId} (hu : P.underlying t = some (.array m e)) (h : DataW.trod enc P w 0 sp held (fuel + 1) t cs = some x) :
    cs.length = P.cellsOf t ∧ ∀ i, i < m → ∃ y, DataW.trod enc P w 0 sp held fuel e ((cs.drop (i * P.cellsOf e)).take (P.cellsOf e)) = some y := by
  unfold DataW.trod at h
  simp only [hu] at h
  split at h
  · rename_i h1
    refine ⟨h1, ?_⟩
    obtain ⟨ys, h2, h3⟩ := Option.map_eq_some_iff.1 h
    obtain ⟨g1, g2⟩ := mapM_opt h2
    intro i hi
    obtain ⟨y, hy, he⟩ := g2 i i (by rw [List.getElem?_range hi])
    exact ⟨_, he⟩
  · cases h
end

theorem add_add (a : Addr) (m k : Nat) : (a.add m).add k = a.add (m + k) := by
  unfold Addr.add
  by_cases hm : m = 0
  · subst hm; simp
  · by_cases hk : k = 0
    · subst hk; simp
    · simp [hm, hk, Nat.add_assoc]

theorem tiled_in {P : Program} {ok : TypeId → Bool} {stop : Nat} : ∀ (fs : List Field) (off : Nat), tiled P ok off fs stop = true → ∀ f ∈ fs, f.offset + P.cellsOf f.type ≤ stop := by
  have bd : ∀ (fs : List Field) (off : Nat), tiled P ok off fs stop = true → off ≤ stop := by
    intro fs
    induction fs with
    | nil => intro off h; simp [tiled] at h; omega
    | cons f r ih => intro off h; simp only [tiled, Bool.and_eq_true] at h; have := ih _ h.2; omega
  intro fs
  induction fs with
  | nil => intro off h f hf; simp at hf
  | cons g r ih =>
    intro off h f hf
    have h' := h
    simp only [tiled, Bool.and_eq_true, beq_iff_eq] at h
    rcases List.mem_cons.1 hf with rfl | hf
    · have := bd _ _ h.2
      omega
    · exact ih _ h.2 f hf

/-- What the reading of an argument says of it as plain values. -/
theorem trod_shp {H : Type} {enc : TypeId × Value → H} {P : Program} {w : World} {sp : Nat → Bool} {held : Bool} : ∀ (n : Nat) (t : TypeId) (fuel : Nat) (cs : List Value) (x : DataW H × List MemPlace),
    plainT P n t = true → DataW.trod enc P w 0 sp held fuel t cs = some x → cs.length = P.cellsOf t → ∃ ls, Shp P n t ls ∧ VL w [] (fun b => b < w.heap.size) ls cs := by
  intro n
  induction n with
  | zero => intro t fuel cs x hp; simp [plainT] at hp
  | succ n ih =>
    intro t fuel cs x hp h hlen
    cases fuel with
    | zero => simp [DataW.trod] at h
    | succ fuel =>
      unfold plainT at hp
      split at hp
      · rename_i hu
        obtain ⟨b, rfl⟩ := trod_b hu h
        exact ⟨_, by simp only [Shp, hu]; exact ⟨b, rfl⟩, VL.one (.bool b)⟩
      · rename_i k hu
        obtain ⟨m, rfl, hm⟩ := trod_i hu h
        exact ⟨_, by simp only [Shp, hu]; exact ⟨m, rfl, hm⟩, VL.one (.int k m)⟩
      · rename_i hu
        obtain ⟨s, rfl, hs⟩ := trod_s hu h
        exact ⟨_, by simp only [Shp, hu]; exact ⟨s, rfl, hs⟩, VL.one (.str s)⟩
      · rename_i e hu
        simp only [Bool.and_eq_true, decide_eq_true_eq] at hp
        rcases trod_l hu h with rfl | ⟨a, len, cap, rfl, hl, hc, hel⟩
        · exact ⟨[.nils], by simp only [Shp, hu]; exact .inl trivial, VL.one .nils⟩
        · obtain ⟨uss, hus⟩ : ∃ uss : Nat → List Value, ∀ i, i < len → ∃ y, w.cells? 0 (a.add (i * P.cellsOf e)) (P.cellsOf e) = some (uss i) ∧ DataW.trod enc P w 0 sp held fuel e (uss i) = some y := by
            refine ⟨fun i => if hi : i < len then Classical.choose (hel i hi) else [], fun i hi => ?_⟩
            simp only [hi, dif_pos]
            exact Classical.choose_spec (hel i hi)
          obtain ⟨c, hcc⟩ : ∃ c, c = P.cellsOf e := ⟨_, rfl⟩
          rw [← hcc] at hus hp
          have hcell : ∀ i k, i < len → k < c → w.cell? (a.add (i * c + k)) = some ((uss i).getD k undef) := fun i k hi hk => by
            obtain ⟨y, h1, _⟩ := hus i hi
            rw [← add_add]
            exact (cells_some h1).2 k hk
          have hul : ∀ i, i < len → (uss i).length = c := fun i hi => by
            obtain ⟨y, h1, _⟩ := hus i hi
            exact (cells_some h1).1
          have hdm : ∀ j, j < len * c → j / c < len ∧ j % c < c ∧ j / c * c + j % c = j := fun j hj =>
            ⟨(Nat.div_lt_iff_lt_mul hp.2).2 hj, Nat.mod_lt _ hp.2, by rw [Nat.mul_comm]; exact Nat.div_add_mod j c⟩
          let us : List Value := (List.range (len * c)).map fun j => (uss (j / c)).getD (j % c) undef
          have ul : us.length = len * c := by simp [us]
          have ug : ∀ j, j < len * c → us.getD j undef = (uss (j / c)).getD (j % c) undef := fun j hj => by
            rw [List.getD_eq_getElem?_getD, List.getElem?_map, List.getElem?_range hj]
            rfl
          have piece : ∀ i, i < len → (us.drop (i * c)).take c = uss i := fun i hi => by
            have hb : (i + 1) * c ≤ len * c := Nat.mul_le_mul_right _ hi
            rw [Nat.add_mul, Nat.one_mul] at hb
            apply List.ext_getElem
            · rw [List.length_take, List.length_drop, ul, hul i hi]; omega
            · intro k h1 h2
              rw [hul i hi] at h2
              have := ug (i * c + k) (by omega)
              rw [show (i * c + k) / c = i by rw [Nat.mul_comm, Nat.mul_add_div hp.2, Nat.div_eq_of_lt h2]; rfl, show (i * c + k) % c = k by rw [Nat.mul_comm, Nat.mul_add_mod, Nat.mod_eq_of_lt h2]] at this
              rw [List.getElem_take, List.getElem_drop]
              rw [List.getD_eq_getElem?_getD, List.getElem?_eq_getElem (by rw [ul]; omega), List.getD_eq_getElem?_getD, List.getElem?_eq_getElem (by rw [hul i hi]; exact h2)] at this
              exact this
          obtain ⟨ls, h1, h2⟩ := rpt_build (w := w) (ι := []) (per := fun b => b < w.heap.size) (S := Shp P n e) len us ul (fun i hi => by
            rw [piece i hi]
            obtain ⟨y, h1, h2⟩ := hus i hi
            exact ih _ _ _ _ hp.1 h2 (by rw [hul i hi, hcc]))
          refine ⟨[.ps c len ls], by simp only [Shp, hu]; exact .inr ⟨len, ls, by rw [hcc], by omega, h1⟩, VL.one (VL.mkps h2 ul hl hp.2 (fun j hj => ?_) (fun b hb => hb))⟩
          obtain ⟨d1, d2, d3⟩ := hdm j hj
          rw [ug j hj, ← hcell _ _ d1 d2, d3]
      · rename_i fs hu
        obtain ⟨hl, hf⟩ := trod_t hu h
        rw [← hl] at hp
        obtain ⟨ls, h1, h2⟩ := cat_build (S := fun f => Shp P n f.type) fs.toList 0 hp (fun f hf' hok => by
          obtain ⟨y, hy⟩ := hf f hf'
          refine ih _ _ _ _ hok hy ?_
          have := tiled_in _ _ hp f hf'
          rw [List.length_take, List.length_drop]
          omega)
        exact ⟨ls, by simp only [Shp, hu]; exact h1, h2⟩
      · rename_i m e hu
        simp only [Bool.and_eq_true, beq_iff_eq] at hp
        obtain ⟨hl, hf⟩ := trod_a hu h
        obtain ⟨ls, h1, h2⟩ := rpt_build m cs (by rw [hl, hp.2]) (fun i hi => by
          obtain ⟨y, hy⟩ := hf i hi
          refine ih _ _ _ _ hp.1 hy ?_
          have : (i + 1) * P.cellsOf e ≤ m * P.cellsOf e := Nat.mul_le_mul_right _ hi
          rw [Nat.add_mul, Nat.one_mul] at this
          rw [List.length_take, List.length_drop, hl, hp.2]
          omega)
        exact ⟨ls, by simp only [Shp, hu]; exact h1, h2⟩
      · cases hp
end Go.Lite

/- Lite, part V: the frame of a law that changes nothing, for any plain arguments. -/
namespace Go.Lite
open Go Go.RowKit Go.ChangeShapes
set_option linter.unusedVariables false

/-- A value of this type, as an argument. -/
def ShpV (P : Program) (n : Nat) (t : TypeId) (x : LV) : Prop :=
  match P.underlying t with
  | some (.struct _) | some (.array _ _) => ∃ ls, x = .agg ls ∧ Shp P n t ls
  | _ => Shp P n t [x]

def ShpA (P : Program) (n : Nat) : List TypeId → List LV → Prop
  | [], xs => xs = []
  | t :: ts, xs => ∃ x r, xs = x :: r ∧ ShpV P n t x ∧ ShpA P n ts r

section
variable {H : Type} {enc : TypeId × Value → H} {P : Program} {w : World} {sp : Nat → Bool} {held : Bool} {base : Nat}

theorem trod_shpV {n : Nat} {t : TypeId} {v : Value} {d : DataW H} {ps : List MemPlace} (hp : plainT P n t = true) (hc : P.cellsOf t = 1 ∨ (match P.underlying t with | some (.struct _) | some (.array _ _) => True | _ => False))
    (h : DataW.Trod enc P w 0 sp held t v d ps) (hv : Value.okWide P w .any base t v) : ∃ x, ShpV P n t x ∧ VR w (fun b => b < w.heap.size) [] x v := by
  obtain ⟨fuel, h⟩ := h
  unfold Value.okWide at hv
  unfold ShpV
  split at hv
  · rename_i hu
    obtain ⟨cs, rfl, hs, _⟩ := hv
    obtain ⟨ls, h1, h2⟩ := trod_shp n t fuel _ _ hp h (by simpa [Value.cells] using hs)
    exact ⟨.agg ls, by rw [hu]; exact ⟨ls, rfl, h1⟩, .agg (by simpa [Value.cells] using h2.1) (fun i hi => by simpa [Value.cells] using h2.2 i hi)⟩
  · rename_i hu
    obtain ⟨cs, rfl, hs, _⟩ := hv
    obtain ⟨ls, h1, h2⟩ := trod_shp n t fuel _ _ hp h (by simpa [Value.cells] using hs)
    exact ⟨.agg ls, by rw [hu]; exact ⟨ls, rfl, h1⟩, .agg (by simpa [Value.cells] using h2.1) (fun i hi => by simpa [Value.cells] using h2.2 i hi)⟩
  · rename_i hn1 hn2
    have hcv : v.cells.toList = [v] := by
      cases v <;> try rfl
      rename_i cs
      exfalso
      unfold plainT at hp
      cases n with
      | zero => simp at hp
      | succ n =>
        simp only at hp
        split at hp <;> simp_all [Cell.okWide, Cell.ok]
    rw [hcv] at h
    have h1 : P.cellsOf t = 1 := by
      rcases hc with h1 | h1
      · exact h1
      · split at h1
        · rename_i hu; exact absurd hu (hn1 _)
        · rename_i hu; exact absurd hu (hn2 _ _)
        · exact h1.elim
    obtain ⟨ls, g1, g2⟩ := trod_shp n t fuel _ _ hp h (by rw [h1]; rfl)
    obtain ⟨x, rfl⟩ : ∃ x, ls = [x] := by
      have := g2.1
      match ls, this with
      | [x], _ => exact ⟨x, rfl⟩
    refine ⟨x, ?_, g2.2 0 (by simp)⟩
    split
    · rename_i hu; exact absurd hu (hn1 _)
    · rename_i hu; exact absurd hu (hn2 _ _)
    · exact g1

def oneT (P : Program) (t : TypeId) : Bool := P.cellsOf t == 1 || (match P.underlying t with | some (.struct _) | some (.array _ _) => true | _ => false)

theorem trodAll_shp {n : Nat} : ∀ (ts : List TypeId) (vs : List Value) (ds : List (DataW H)) (ps : List MemPlace), (ts.all fun t => plainT P n t && oneT P t) = true →
    DataW.TrodAll enc P w 0 sp held ts vs ds ps → (∀ (j : Nat) t v, ts[j]? = some t → vs[j]? = some v → Value.okWide P w .any base t v) →
    ∃ xs, ShpA P n ts xs ∧ VL w [] (fun b => b < w.heap.size) xs vs := by
  intro ts
  induction ts with
  | nil =>
    intro vs ds ps _ h _
    match vs, ds, h with
    | [], [], _ => exact ⟨[], rfl, VL.nil'⟩
  | cons t ts ih =>
    intro vs ds ps hp h hv
    match vs, ds, h with
    | v :: vs, d :: ds, h =>
      obtain ⟨p, q, h1, h2, rfl⟩ := h
      simp only [List.all_cons, Bool.and_eq_true] at hp
      obtain ⟨⟨p1, p2⟩, p3⟩ := hp
      have ho : P.cellsOf t = 1 ∨ (match P.underlying t with | some (.struct _) | some (.array _ _) => True | _ => False) := by
        simp only [oneT, Bool.or_eq_true, beq_iff_eq] at p2
        rcases p2 with p2 | p2
        · exact .inl p2
        · right
          split at p2 <;> simp_all
      obtain ⟨x, g1, g2⟩ := trod_shpV p1 ho h1 (hv 0 t v rfl rfl)
      obtain ⟨xs, k1, k2⟩ := ih vs ds q p3 h2 (fun j t' v' a b => hv (j + 1) t' v' a b)
      exact ⟨x :: xs, ⟨x, xs, rfl, g1, k1⟩, (VL.one g2).append k2⟩

theorem trodAll_stays {w' : World} {sp' : Nat → Bool} (hl : laidOutB P = true) (hb : Below w.heap.size w w') : ∀ (ts : List TypeId) (vs : List Value) (ds : List (DataW H)) (ps : List MemPlace),
    (ts.all fun t => P.readableRec t && decide (t < P.types.size)) = true → DataW.TrodAll enc P w 0 (fun _ => true) true ts vs ds ps → (∀ x ∈ ps, x.block < w.heap.size) → (∀ x ∈ ps, sp' x.block = true) →
    DataW.TrodAll enc P w' 0 sp' true ts vs ds ps := by
  intro ts
  induction ts with
  | nil =>
    intro vs ds ps _ h _ _
    match vs, ds, h with
    | [], [], h => exact h
  | cons t ts ih =>
    intro vs ds ps hp h hlt hsp
    match vs, ds, h with
    | v :: vs, d :: ds, h =>
      obtain ⟨p, q, h1, h2, rfl⟩ := h
      simp only [List.all_cons, Bool.and_eq_true, decide_eq_true_eq] at hp
      exact ⟨p, q, WideElems.Trod_stays hl hp.1.1 hp.1.2 h1 (fun x hx => hb.same (hlt x (by simp [hx]))) (fun x hx => hsp x (by simp [hx])), ih vs ds q hp.2 h2 (fun x hx => hlt x (by simp [hx])) (fun x hx => hsp x (by simp [hx])), rfl⟩

theorem trodAll_len : ∀ {ts : List TypeId} {vs : List Value} {ds : List (DataW H)} {ps : List MemPlace}, DataW.TrodAll enc P w 0 sp held ts vs ds ps → ds.length = ts.length := by
  intro ts
  induction ts with
  | nil => intro vs ds ps h; match vs, ds, h with | [], [], _ => rfl
  | cons t ts ih => intro vs ds ps h; match vs, ds, h with | v :: vs, d :: ds, h => obtain ⟨p, q, _, h2, _⟩ := h; simp [ih h2]
end
end Go.Lite

/- Lite, part TM: a law's arguments read as typed values. -/
namespace Go.Lite
open Go Go.RowKit
set_option linter.unusedVariables false

/-- Cell for cell no more. -/
def LessL (as bs : List LV) : Prop := as.length = bs.length ∧ ∀ i (h1 : i < as.length) (h2 : i < bs.length), Less as[i] bs[i]
theorem LessL.nil : LessL [] [] := ⟨rfl, fun i h => absurd h (by simp)⟩
theorem LessL.one {a b : LV} (h : Less a b) : LessL [a] [b] := ⟨rfl, fun i h1 h2 => by
  have : i = 0 := by simpa using h1
  subst this; exact h⟩
theorem LessL.app {as bs cs ds : List LV} (h : LessL as bs) (k : LessL cs ds) : LessL (as ++ cs) (bs ++ ds) := by
  refine ⟨by simp [h.1, k.1], fun i h1 h2 => ?_⟩
  by_cases hi : i < as.length
  · rw [List.getElem_append_left hi, List.getElem_append_left (by rw [← h.1]; exact hi)]
    exact h.2 i hi _
  · rw [List.getElem_append_right (by omega), List.getElem_append_right (by rw [← h.1]; omega)]
    have := k.2 (i - as.length) (by simp at h1; omega) (by rw [← k.1]; simp at h1; omega)
    simpa [h.1] using this
theorem LessL.cons {a b : LV} {as bs : List LV} (h : Less a b) (k : LessL as bs) : LessL (a :: as) (b :: bs) := (LessL.one h).app k
theorem Less.ps {sz n : Nat} {cs ds : List LV} (h : LessL cs ds) : Less (.ps sz n cs) (.ps sz n ds) := fun w per ι ι' v hv => by
  cases hv with
  | psz =>
    have : cs = [] := List.eq_nil_of_length_eq_zero (by rw [h.1]; rfl)
    subst this; exact .psz
  | ps vs hp hn hl hc hvv => exact .ps vs hp (by rw [h.1]; exact hn) hl (fun i hi => hc i (by rw [← h.1]; exact hi)) fun i hi => h.2 i hi (by rw [← h.1]; exact hi) w per [] [] _ (hvv i (by rw [← h.1]; exact hi))
theorem Less.psnil {sz : Nat} : Less (.ps sz 0 []) .nils := fun w per ι ι' v hv => by cases hv; exact .psz

section
variable {P : Program} {n : Nat} {t : TypeId}

theorem rpt_read {S : List LV → Prop} {α : Type} {enc : α → List LV} {ok : α → Prop} (h : ∀ ls, S ls → ∃ a, ok a ∧ LessL (enc a) ls) : ∀ (n : Nat) (ls : List LV), Rpt S n ls → ∃ xs : List α, xs.length = n ∧ (∀ x ∈ xs, ok x) ∧ LessL (xs.flatMap enc) ls := by
  intro n
  induction n with
  | zero => intro ls hr; obtain rfl : ls = [] := hr; exact ⟨[], rfl, fun x hx => by simp at hx, .nil⟩
  | succ n ih =>
    intro ls hr
    obtain ⟨p, q, rfl, hp, hq⟩ := hr
    obtain ⟨a, h1, h2⟩ := h p hp
    obtain ⟨xs, k1, k2, k3⟩ := ih q hq
    refine ⟨a :: xs, by simp [k1], fun x hx => ?_, by rw [List.flatMap_cons]; exact h2.app k3⟩
    rcases List.mem_cons.1 hx with rfl | hx
    · exact h1
    · exact k2 x hx

theorem shp_int {k : IntKind} (hu : P.underlying t = some (.int k)) {ls : List LV} (h : Shp P (n + 1) t ls) : ∃ m, ls = [.int k m] ∧ (Lit.int k m).wf = true := by simpa only [Shp, hu] using h
theorem shp_struct {fs : Array Field} (hu : P.underlying t = some (.struct fs)) {ls : List LV} (h : Shp P (n + 1) t ls) : Cat (fs.toList.map fun f => Shp P n f.type) ls := by simpa only [Shp, hu] using h
/-- A struct's fields' types. -/
def fieldsT (P : Program) (t : TypeId) : Option (List TypeId) := match P.underlying t with
  | some (.struct fs) => some (fs.toList.map (·.type))
  | _ => none
theorem shp_fields {ts : List TypeId} (hu : fieldsT P t = some ts) {ls : List LV} (h : Shp P (n + 1) t ls) : Cat (ts.map (Shp P n)) ls := by
  unfold fieldsT at hu
  split at hu
  · rename_i fs hf
    obtain rfl := Option.some.inj hu
    have := shp_struct hf h
    rwa [List.map_map]
  · cases hu
theorem shp_slice {A : Nat → Type} {R : Reg A} {e : Nat} {te : TypeId} {ok : A e → Prop} (hu : P.underlying t = some (.slice te)) (hsz : P.cellsOf te = R.sz e) (hel : ∀ ls, Shp P n te ls → ∃ a, ok a ∧ LessL (R.encL e a) ls) {ls : List LV} (h : Shp P (n + 1) t ls) :
    ∃ xs : List (A e), (xs.length ≤ maxLen ∧ ∀ x ∈ xs, ok x) ∧ LessL [emb R (.lst e xs)] ls := by
  simp only [Shp, hu] at h
  rcases h with rfl | ⟨len, cs, rfl, hl, hr⟩
  · exact ⟨[], ⟨by simp, fun x hx => by simp at hx⟩, .one .psnil⟩
  · obtain ⟨xs, h1, h2, h3⟩ := rpt_read hel len cs hr
    refine ⟨xs, ⟨by omega, h2⟩, .one ?_⟩
    simp only [emb, h1, hsz]
    exact .ps h3

theorem shpv_agg {fs : Array Field} (hu : P.underlying t = some (.struct fs)) {x : LV} (h : ShpV P n t x) : ∃ ls, x = .agg ls ∧ Shp P n t ls := by
  unfold ShpV at h; rw [hu] at h; exact h
theorem shpv_aggF {ts : List TypeId} (hu : fieldsT P t = some ts) {x : LV} (h : ShpV P n t x) : ∃ ls, x = .agg ls ∧ Shp P n t ls := by
  unfold fieldsT at hu
  split at hu
  · rename_i fs hu2; exact shpv_agg hu2 h
  · cases hu
theorem wf_rng {k : IntKind} {m : Int} (h : (Lit.int k m).wf = true) : rng k m := by
  simp only [Lit.wf, Bool.and_eq_true, decide_eq_true_eq] at h
  cases k <;> exact h
theorem shpv_int {k : IntKind} (hu : P.underlying t = some (.int k)) {x : LV} (h : ShpV P (n + 1) t x) : ∃ m, x = .int k m ∧ (Lit.int k m).wf = true := by
  unfold ShpV at h; rw [hu] at h
  obtain ⟨m, h1, h2⟩ := shp_int hu h
  exact ⟨m, by simpa using h1, h2⟩
theorem shpv_slice {te : TypeId} (hu : P.underlying t = some (.slice te)) {x : LV} (h : ShpV P n t x) : Shp P n t [x] := by
  unfold ShpV at h; rw [hu] at h; exact h
end

section
variable {A : Nat → Type} {R : Reg A} {P : Program}
/-- From a contract at typed values to one at what is no less. -/
theorem TC.less {f : Nat} {args : List (TV A)} {xs : List LV} (h : TC R P f args [] (fun w X => w = .bool true ∧ X = [])) (hl : LessL (embC R args) xs) : LC P f xs [] fun x _ => x = .bool true :=
  (LC.args hl.1 hl.2 h).mono fun x G ⟨v, X, ⟨h1, h2⟩, h3, h4⟩ => by subst h1; exact h3
theorem Less.agg' {cs ds : List LV} (h : LessL cs ds) : Less (.agg cs) (.agg ds) := .agg h.1 h.2
end
end Go.Lite
