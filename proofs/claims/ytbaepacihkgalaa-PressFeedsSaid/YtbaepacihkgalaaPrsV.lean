/- Presses: the events of a sheet, taken out of the whole script. -/
import Derived.Test.YtbaepacihkgalaaPrsP
namespace Go.Proofs.Ytbaepacihkgalaa
open Go Go.Lite
set_option linter.unusedVariables false
set_option linter.unusedSimpArgs false
set_option maxRecDepth 100000
set_option maxHeartbeats 4000000

def apF (Z : Nat) (k : Int) (p : Ps) (v : Ev) : Ps := if v.1 = k then evP Z p v else p
theorem take_fold {α β : Type} (f : β → α → β) (p : β) (l : List α) (d : α) {i : Nat} (h : i < l.length) : (l.take (i + 1)).foldl f p = f ((l.take i).foldl f p) (l.getD i d) := by
  rw [List.take_add_one, List.foldl_append, List.getElem?_eq_getElem h, List.getD_eq_getElem?_getD, List.getElem?_eq_getElem h]; rfl
theorem scE_srt {l : List Ev} {u Z : Int} (h : scE l u Z = 0) (hl : l.length ≤ 200) : l.Pairwise (fun a b => a.1 ≤ b.1) := by
  unfold scE at h
  rw [if_neg (by omega)] at h
  have h2 := fstE_zero.1 h
  have g : ∀ {i : Nat} (hi : i < l.length), l.getD i dEv = l[i] := fun hi => by rw [List.getD_eq_getElem?_getD, List.getElem?_eq_getElem hi]; rfl
  have st : ∀ i (h1 : i + 1 < l.length), l[i].1 ≤ l[i + 1].1 := fun i h1 => by
    have := h2 (i + 1) h1
    unfold scI at this
    rw [g h1, show i + 1 - 1 = i from rfl, g (by omega)] at this
    split at this
    · rename_i h'; exact absurd this h'
    split at this
    · contradiction
    · rename_i _ h'; omega
  rw [List.pairwise_iff_getElem]
  intro i j hi hj hij
  induction j with
  | zero => omega
  | succ j ih =>
    have := st j hj
    by_cases e : i = j
    · subst e; exact this
    · exact Int.le_trans (ih (by omega) (by omega)) this
theorem fold_none {Z : Nat} {k : Int} : ∀ {l : List Ev} {p : Ps}, (∀ v ∈ l, v.1 ≠ k) → l.foldl (apF Z k) p = p
  | [], _, _ => rfl
  | v :: l, p, h => by
    rw [List.foldl_cons]
    have : apF Z k p v = p := if_neg (h v (List.mem_cons_self ..))
    rw [this]
    exact fold_none fun w hw => h w (List.mem_cons_of_mem _ hw)
theorem runE_fold {Z : Nat} {k : Int} : ∀ {l : List Ev} {p : Ps}, l.Pairwise (fun a b => a.1 ≤ b.1) → (∀ v ∈ l, k ≤ v.1) →
    (runE Z k l p).1 = l.foldl (apF Z k) p ∧ ∃ t, l = t ++ (runE Z k l p).2 ∧ (∀ v ∈ t, v.1 ≤ k) ∧ ∀ v ∈ (runE Z k l p).2, k + 1 ≤ v.1
  | [], p, _, _ => ⟨rfl, [], rfl, (fun _ h => nomatch h), (fun _ h => nomatch h)⟩
  | v :: l, p, hs, hk => by
    obtain ⟨hv, hs⟩ := List.pairwise_cons.1 hs
    rw [runE]
    by_cases e : v.1 = k
    · rw [if_pos e]
      obtain ⟨h1, t, h2, h3, h4⟩ := runE_fold (p := evP Z p v) hs (fun w hw => hk w (List.mem_cons_of_mem _ hw))
      refine ⟨?_, v :: t, by rw [List.cons_append, ← h2], fun w hw => ?_, h4⟩
      · rw [h1, List.foldl_cons, show apF Z k p v = evP Z p v from if_pos e]
      · rcases List.mem_cons.1 hw with rfl | hw
        · omega
        · exact h3 w hw
    · rw [if_neg e]
      have hb : ∀ w ∈ v :: l, k + 1 ≤ w.1 := fun w hw => by
        have h0 := hk v (List.mem_cons_self ..)
        rcases List.mem_cons.1 hw with rfl | hw
        · omega
        · have := hv w hw; omega
      exact ⟨(fold_none fun w hw => by have := hb w hw; omega).symm, [], rfl, (fun _ h => nomatch h), hb⟩
theorem runP_fold {S : Su} {u : Nat} {l : List Ev} (hs : l.Pairwise (fun a b => a.1 ≤ b.1)) (h1 : ∀ v ∈ l, 1 ≤ v.1) : ∀ k : Nat,
    (∃ t, l = t ++ (runP S u l k).2 ∧ ∀ v ∈ t, v.1 ≤ k) ∧ ∀ v ∈ (runP S u l k).2, (k : Int) + 1 ≤ v.1
  | 0 => ⟨⟨[], rfl, (fun _ h => nomatch h)⟩, fun v hv => by have := h1 v hv; omega⟩
  | k + 1 => by
    obtain ⟨⟨t, e, ht⟩, hr⟩ := runP_fold (S := S) (u := u) hs h1 k
    have hs' : (runP S u l k).2.Pairwise (fun a b => a.1 ≤ b.1) := by
      have h2 : (t ++ (runP S u l k).2).Pairwise (fun a b => a.1 ≤ b.1) := e ▸ hs
      exact (List.pairwise_append.1 h2).2.1
    obtain ⟨_, t2, e2, h3, h4⟩ := runE_fold (Z := S.Z) (k := (k : Int) + 1) (p := (runP S u l k).1) hs' (fun v hv => hr v hv)
    refine ⟨⟨t ++ t2, ?_, fun v hv => ?_⟩, fun v hv => ?_⟩
    · show l = t ++ t2 ++ (runE S.Z (k + 1) (runP S u l k).2 (runP S u l k).1).2
      rw [List.append_assoc, ← e2]; exact e
    · rcases List.mem_append.1 hv with hv | hv
      · have := ht v hv; omega
      · have := h3 v hv; omega
    · have := h4 v hv; omega
/-- The press that prints a sheet: the events of the sheet applied, wherever they stand in the script. -/
theorem runB_fold {S : Su} {u : Nat} {l : List Ev} (hs : l.Pairwise (fun a b => a.1 ≤ b.1)) (h1 : ∀ v ∈ l, 1 ≤ v.1) (k : Nat) : l.foldl (apF S.Z ((k : Int) + 1)) (runP S u l k).1 = runB S u l k := by
  obtain ⟨⟨t, e, ht⟩, hr⟩ := runP_fold (S := S) (u := u) hs h1 k
  have hs' : (runP S u l k).2.Pairwise (fun a b => a.1 ≤ b.1) := by
    have h2 : (t ++ (runP S u l k).2).Pairwise (fun a b => a.1 ≤ b.1) := e ▸ hs
    exact (List.pairwise_append.1 h2).2.1
  have h2 := (runE_fold (Z := S.Z) (k := (k : Int) + 1) (p := (runP S u l k).1) hs' hr).1
  unfold runB
  rw [h2]
  have : l.foldl (apF S.Z ((k : Int) + 1)) (runP S u l k).1 = (t ++ (runP S u l k).2).foldl (apF S.Z ((k : Int) + 1)) (runP S u l k).1 := by rw [← e]
  rw [this, List.foldl_append, fold_none (l := t) (fun v hv => by have := ht v hv; omega)]
theorem runP_succ1 {S : Su} {u : Nat} {l : List Ev} {k : Nat} : (runP S u l (k + 1)).1 = fedP S u (runB S u l k) := rfl
theorem runL_succ {S : Su} {u : Nat} {l : List Ev} {k : Nat} : runL S u l (k + 1) = runL S u l k ++ [recO S u (runB S u l k)] := by rw [runL, tab_succ]; rfl
end Go.Proofs.Ytbaepacihkgalaa
