/- The first number that is not zero. -/
import Derived.Test.YtbaepacihkgalaaLists
import Derived.Test.YtbaepacihkgalaaX0
namespace Go.Proofs.Ytbaepacihkgalaa
open Go Go.Lite
set_option linter.unusedVariables false
set_option linter.unusedSimpArgs false
set_option maxRecDepth 100000
set_option maxHeartbeats 4000000

theorem callHK {τ : TT} {fl : Nat → Bool} {N : Dim} (E : Env A R Try.prog τ fl) (k : Nat) {ρ : List Nat} {s : SO} {r : List SO} {Q : TF A → TH A → Prop} {F : TF A} {H : TH A} {f : Nat} {al as0 : List (TV A)} {H0 X0 : TH A} {v0 : TV A} (hc : TC R Try.prog f as0 H0 (fun v X => v = v0 ∧ X = X0)) (hρ : ρ = List.range' k H0.length)
    (hg : tgate F s.g = true) (hs : tcall F s = some (f, al)) (hn : nodupB ρ = true) (hlt : ρ.all (Nat.blt · H.length) = true) (hlen : H0.length = ρ.length) (ha : trenL (gOf ρ H.length) as0 = al) (hrows : handOk (gOf ρ H.length) H ρ H0)
    (q : TOps R Try.prog N r Q (tlput s.dst (tren (gOf ρ H.length) v0) F) (tsetRows H ρ (trenH (gOf ρ H.length) (X0.take ρ.length)) ++ trenH (gOf ρ H.length) (X0.drop ρ.length))) : TOps R Try.prog N (s :: r) Q F H :=
  .callHE E ρ hc hg hs hn hlt hlen ha hrows q
/-- The rows of the new frame stand in the old one in the same order, from k on. -/
theorem TWk.fcanonR {τ : TT} {fl : Nat → Bool} {N : Dim} (E : Env A R Try.prog τ fl) (k : Nat) {F F' : TF A} {H H' : TH A} {p : List Prop} (h : (match tcanon R N.m ((List.range' k H'.length).map some) F' H' F H with | some p => fC p some | none => none) = some p) (hc : Conj p) : TWk R N F' H' F H := .fcanon E _ h hc
/-- .. where they stand is told by their number. -/
theorem TWk.fcanonG {τ : TT} {fl : Nat → Bool} {N : Dim} (E : Env A R Try.prog τ fl) (g : Nat → List (Option Nat)) {F F' : TF A} {H H' : TH A} {p : List Prop} (h : (match tcanon R N.m (g H'.length) F' H' F H with | some p => fC p some | none => none) = some p) (hc : Conj p) : TWk R N F' H' F H := .fcanon E _ h hc
theorem Tw.hE {N : Dim} {s : SC} {Q : TPost A} {F : TF A} {H H' : TH A} (h : H = H') (k : Tw R Try.prog N s Q F H') : Tw R Try.prog N s Q F H := h ▸ k
theorem TWk.hE {N : Dim} {F F' : TF A} {H H' K : TH A} (h : H' = K) (k : TWk R N F' K F H) : TWk R N F' H' F H := h ▸ k
/-- A row of its own is frozen; its place is told from behind. -/
theorem TWk.frzD {τ : TT} {fl : Nat → Bool} {N : Dim} (E : Env A R Try.prog τ fl) (c : Nat) {e : Nat} {xs : List (A e)} {F F' F'' : TF A} {H H' H'' : TH A} {p q : List Prop} (hm : Nat.ble N.m (H.length - c) = true) (hr : trow H (H.length - c) = some (.arr e xs))
    (h : (match tfzF R (H.length - c) e xs F with | (p, F') => match tfzH R (H.length - c) e xs 0 H with | (q, H') => fF F' fun F' => fH H' fun H' => fC p fun p => fC q fun q => (p, q, F', H')) = (p, q, F', H')) (hp : Conj p) (hq : Conj q) (k : TWk R N F'' H'' F' H') : TWk R N F'' H'' F H := by
  simp only [fF_eq, fH_eq, fC_eq, Prod.mk.injEq] at h
  obtain ⟨h1, h2, h3, h4⟩ := h
  exact .trans k (TWk.freeze E _ hm hr (Prod.ext h1 h3) (Prod.ext h2 h4) hp hq)
theorem Tw.frzD {τ : TT} {fl : Nat → Bool} {N : Dim} (E : Env A R Try.prog τ fl) (c : Nat) {e : Nat} {xs : List (A e)} {s : SC} {Q : TPost A} {F F' : TF A} {H H' : TH A} {p q : List Prop} (hm : Nat.ble N.m (H.length - c) = true) (hr : trow H (H.length - c) = some (.arr e xs))
    (h : (match tfzF R (H.length - c) e xs F with | (p, F') => match tfzH R (H.length - c) e xs 0 H with | (q, H') => fF F' fun F' => fH H' fun H' => fC p fun p => fC q fun q => (p, q, F', H')) = (p, q, F', H')) (hp : Conj p) (hq : Conj q) (k : Tw R Try.prog N s Q F' H') : Tw R Try.prog N s Q F H := Tw.frz E _ hm hr h hp hq k
theorem Tw.reP {N : Dim} {s : SC} {Q : TPost A} {F : TF A} {H H' : TH A} (h : embH R H' = embH R H) (k : Tw R Try.prog N s Q F H') : Tw R Try.prog N s Q F H := .weaken (TWk.trans (by unfold TWk; rw [h]; exact Wk.refl _ _) (by unfold TWk; exact Wk.refl _ _ : TWk R N F H F H)) k
theorem Tw.reFP {N : Dim} {s : SC} {Q : TPost A} {F F' : TF A} {H H' : TH A} (hF : embF R F' = embF R F) (h : embH R H' = embH R H) (k : Tw R Try.prog N s Q F' H') : Tw R Try.prog N s Q F H := .weaken (by unfold TWk; rw [hF, h]; exact Wk.refl _ _) k
theorem Tw.gcN {τ : TT} {fl : Nat → Bool} {N : Dim} (E : Env A R Try.prog τ fl) (n : Nat) (ρ kp : List Nat) {s : SC} {Q : TPost A} {F F' : TF A} {H H' : TH A} {p : List Prop} (hn : H.length = n) (h : (fF (gcF ρ F kp) fun F' => fH (gcH ρ H ρ) fun H' => (F', H')) = (F', H')) (hq : (match tcanon R N.m (ρ.map some) F' H' F H with | some p => fC p some | none => none) = some p) (hc : Conj p)
    (k : Tw R Try.prog N s Q F' H') : Tw R Try.prog N s Q F H := Tw.gc E _ kp h hq hc k
end Go.Proofs.Ytbaepacihkgalaa
namespace Go.Proofs.Ytbaepacihkgalaa
open Go Go.Lite
set_option linter.unusedVariables false
set_option linter.unusedSimpArgs false
set_option maxRecDepth 100000
set_option maxHeartbeats 4000000

mutual
/-- All handles stand below m. -/
def tltB (m : Nat) : TV A → Bool
  | .ptr h _ => Nat.blt h m
  | .ptrE _ h _ _ => Nat.blt h m
  | .sl _ h _ _ => Nat.blt h m
  | .sla _ h _ _ => Nat.blt h m
  | .fn _ cs => tltL m cs
  | .agg cs => tltL m cs
  | .tup cs => tltL m cs
  | .opt _ v => tltB m v
  | .dead | .und | .bool _ | .int _ _ | .str _ | .nilp | .nils | .nilf | .yld _ | .pel _ | .lst _ _ => true
def tltL (m : Nat) : List (TV A) → Bool
  | [] => true
  | c :: r => tltB m c && tltL m r
end
def tltH (m : Nat) : TH A → Bool
  | [] => true
  | none :: H => tltH m H
  | some (.cells cs) :: H => tltL m cs && tltH m H
  | some (.arr _ _) :: H => tltH m H
mutual
theorem tren_lt {g : Nat → Nat} {m : Nat} (hg : ∀ j, j < m → g j = j) : ∀ v : TV A, tltB m v = true → tren g v = v
  | .ptr h o, hv => by rw [tren, hg h (by simpa [tltB] using hv)]
  | .ptrE _ h _ _, hv => by rw [tren, hg h (by simpa [tltB] using hv)]
  | .sl _ h _ _, hv => by rw [tren, hg h (by simpa [tltB] using hv)]
  | .sla _ h _ _, hv => by rw [tren, hg h (by simpa [tltB] using hv)]
  | .fn _ cs, hv => by rw [tren, trenL_lt hg cs hv]
  | .agg cs, hv => by rw [tren, trenL_lt hg cs hv]
  | .tup cs, hv => by rw [tren, trenL_lt hg cs hv]
  | .opt _ v, hv => by rw [tren, tren_lt hg v hv]
  | .dead, _ => rfl
  | .und, _ => rfl
  | .bool _, _ => rfl
  | .int _ _, _ => rfl
  | .str _, _ => rfl
  | .nilp, _ => rfl
  | .nils, _ => rfl
  | .nilf, _ => rfl
  | .yld _, _ => rfl
  | .pel _, _ => rfl
  | .lst _ _, _ => rfl
theorem trenL_lt {g : Nat → Nat} {m : Nat} (hg : ∀ j, j < m → g j = j) : ∀ cs : List (TV A), tltL m cs = true → trenL g cs = cs
  | [], _ => rfl
  | c :: r, h => by
    have h := Bool.and_eq_true_iff.1 h
    rw [trenL, tren_lt hg c h.1, trenL_lt hg r h.2]
end
theorem trenH_lt {g : Nat → Nat} {m : Nat} (hg : ∀ j, j < m → g j = j) : ∀ H : TH A, tltH m H = true → trenH g H = H
  | [], _ => rfl
  | none :: H, h => by rw [trenH, trenH_lt hg H h]; rfl
  | some (.cells cs) :: H, h => by
    have h := Bool.and_eq_true_iff.1 h
    rw [trenH, trenH_lt hg H h.2, trenR, trenL_lt hg cs h.1]
  | some (.arr _ _) :: H, h => by rw [trenH, trenH_lt hg H h]; rfl
theorem nodupB_of : ∀ {l : List Nat}, l.Nodup → nodupB l = true
  | [], _ => rfl
  | x :: r, h => by
    have h := List.nodup_cons.1 h
    simp only [nodupB, Bool.and_eq_true, Bool.not_eq_true']
    exact ⟨by simpa using h.1, nodupB_of h.2⟩
theorem gOf_range {m n j : Nat} (h : j < m) : gOf (List.range m) n j = j := by
  unfold gOf
  rw [List.getElem?_range h]
theorem tset_range' : ∀ (X B C : TH A), X.length ≤ B.length → tsetRows (C ++ B) (List.range' C.length X.length) X = C ++ X ++ B.drop X.length
  | [], B, C, _ => by simp [tsetRows]
  | x :: X, [], C, h => by simp at h
  | x :: X, b :: B, C, h => by
    have ih := tset_range' X B (C ++ [x]) (by simpa using h)
    rw [List.length_cons, List.range'_succ, tsetRows]
    have e : (C ++ b :: B).set C.length x = (C ++ [x]) ++ B := by
      rw [List.set_append_right _ _ (Nat.le_refl _), Nat.sub_self, List.set_cons_zero, List.append_assoc]; rfl
    rw [e]
    rw [show C.length + 1 = (C ++ [x]).length by simp]
    rw [ih, List.append_assoc C [x] X]; rfl
theorem tset_range (X H : TH A) (h : X.length ≤ H.length) : tsetRows H (List.range X.length) X = X ++ H.drop X.length := by
  have := tset_range' X H [] h
  rw [List.range_eq_range']
  exact this
theorem handOk_id {g : Nat → Nat} {H : TH A} : ∀ {H0 : TH A} {k : Nat}, (∀ j (x : Option (TRow A)), H0[j]? = some x → H[k + j]? = some x) → trenH g H0 = H0 → handOk g H (List.range' k H0.length) H0
  | [], k, _, _ => trivial
  | none :: H0, k, h, e => by
    rw [trenH] at e
    injection e with _ e
    rw [List.length_cons, List.range'_succ]
    exact handOk_id (k := k + 1) (fun j x hj => by have := h (j + 1) x (by simpa using hj); rwa [← Nat.add_assoc, Nat.add_right_comm] at this) e
  | some y :: H0, k, h, e => by
    rw [trenH] at e
    injection e with e1 e
    rw [List.length_cons, List.range'_succ]
    refine ⟨?_, handOk_id (k := k + 1) (fun j x hj => by have := h (j + 1) x (by simpa using hj); rwa [← Nat.add_assoc, Nat.add_right_comm] at this) e⟩
    rw [e1, nth_eq]
    exact h 0 _ rfl
/-- A call that is handed the first rows and hands as many back. -/
theorem callI {τ : TT} {fl : Nat → Bool} {N : Dim} (E : Env A R Try.prog τ fl) (m : Nat) {s : SO} {r : List SO} {Q : TF A → TH A → Prop} {F : TF A} {H H1 : TH A} {f : Nat} {al : List (TV A)} {H0 X0 : TH A} {v0 : TV A} (hc : TC R Try.prog f al H0 (fun v X => v = v0 ∧ X = X0))
    (hg : tgate F s.g = true) (hs : tcall F s = some (f, al)) (hH : H = H0 ++ H1) (hm : H0.length = m) (hx : X0.length = m) (ha : tltL m al = true) (h0 : tltH m H0 = true) (h1 : tltH m X0 = true) (hv : tltB m v0 = true)
    (q : TOps R Try.prog N r Q (tlput s.dst v0 F) (X0 ++ H1)) : TOps R Try.prog N (s :: r) Q F H := by
  subst hm
  have hl : H0.length ≤ H.length := by rw [hH, List.length_append]; omega
  have hid : ∀ j, j < H0.length → gOf (List.range H0.length) H.length j = j := fun j hj => gOf_range hj
  have hr : handOk (gOf (List.range H0.length) H.length) H (List.range H0.length) H0 := by
    have := handOk_id (g := gOf (List.range H0.length) H.length) (H := H) (H0 := H0) (k := 0) (fun j x hj => by
      rw [hH, Nat.zero_add, List.getElem?_append_left (by rcases Nat.lt_or_ge j H0.length with h | h; exact h; rw [List.getElem?_eq_none h] at hj; cases hj)]
      exact hj) (trenH_lt hid H0 h0)
    rwa [← List.range_eq_range'] at this
  refine .callHE E (List.range H0.length) hc hg hs (nodupB_of List.nodup_range) (List.all_eq_true.2 fun x hx => by have := List.mem_range.1 hx; simp only [Nat.blt_eq]; omega) (by rw [List.length_range]) (trenL_lt hid al ha) hr ?_
  rw [List.length_range, tren_lt hid v0 hv, List.take_of_length_le (by omega), List.drop_of_length_le (by omega), trenH_lt hid X0 h1]
  have e := tset_range X0 H (by omega)
  rw [hx] at e
  rw [e, hH, List.drop_left' rfl]
  show TOps R Try.prog N r Q (tlput s.dst v0 F) (X0 ++ H1 ++ [])
  rw [List.append_nil]
  exact q
/-- A call that makes rows, where there are none yet. -/
theorem callJ {τ : TT} {fl : Nat → Bool} {N : Dim} (E : Env A R Try.prog τ fl) (m : Nat) {s : SO} {r : List SO} {Q : TF A → TH A → Prop} {F : TF A} {f : Nat} {al : List (TV A)} {X0 : TH A} {v0 : TV A} (hc : TC R Try.prog f al [] (fun v X => v = v0 ∧ X = X0))
    (hg : tgate F s.g = true) (hs : tcall F s = some (f, al)) (hx : X0.length = m) (ha : tltL m al = true) (h1 : tltH m X0 = true) (hv : tltB m v0 = true)
    (q : TOps R Try.prog N r Q (tlput s.dst v0 F) X0) : TOps R Try.prog N (s :: r) Q F [] := by
  have hid : ∀ j, j < m → gOf [] (0 : Nat) j = j := fun j hj => by unfold gOf; simp
  refine .callHE E [] hc hg hs rfl rfl rfl (trenL_lt hid al ha) trivial ?_
  show TOps R Try.prog N r Q (tlput s.dst (tren (gOf [] 0) v0) F) ([] ++ trenH (gOf [] 0) X0)
  rw [tren_lt hid v0 hv, trenH_lt hid X0 h1]
  exact q
/-- Handles raised. -/
theorem trenH_nil {n : Nat} : gOf [] n = fun j => n + j := by funext j; unfold gOf; simp
/-- A call that makes rows, behind others. -/
theorem callS {τ : TT} {fl : Nat → Bool} {N : Dim} (E : Env A R Try.prog τ fl) (n : Nat) {s : SO} {r : List SO} {Q : TF A → TH A → Prop} {F : TF A} {H : TH A} {f : Nat} {al : List (TV A)} {X0 Y : TH A} {v0 v : TV A} (hc : TC R Try.prog f al [] (fun v X => v = v0 ∧ X = X0)) (hY : trenH (fun j => n + j) X0 = Y) (hn : H.length = n)
    (hg : tgate F s.g = true) (hs : tcall F s = some (f, al)) (ha : tltL 0 al = true) (hv : tren (fun j => n + j) v0 = v)
    (q : TOps R Try.prog N r Q (tlput s.dst v F) (H ++ Y)) : TOps R Try.prog N (s :: r) Q F H := by
  have e : trenL (gOf [] H.length) al = al := trenL_lt (m := 0) (fun j hj => absurd hj (Nat.not_lt_zero j)) al ha
  refine .callHE E [] hc hg hs rfl rfl rfl e trivial ?_
  rw [trenH_nil, hn, hv]
  show TOps R Try.prog N r Q (tlput s.dst v F) (H ++ trenH (fun j => n + j) X0)
  rw [hY]
  exact q
end Go.Proofs.Ytbaepacihkgalaa
namespace Go.Proofs.Ytbaepacihkgalaa
open Go Go.Lite
set_option linter.unusedVariables false
set_option linter.unusedSimpArgs false
set_option maxRecDepth 100000
set_option maxHeartbeats 4000000

def fstE (f : Nat → Int) : Nat → Int
  | 0 => 0
  | n + 1 => if fstE f n ≠ 0 then fstE f n else f n
theorem fstE_zero {f : Nat → Int} : ∀ {n : Nat}, fstE f n = 0 ↔ ∀ j, j < n → f j = 0
  | 0 => ⟨fun _ j hj => by omega, fun _ => rfl⟩
  | n + 1 => by
    simp only [fstE]
    by_cases h : fstE f n = 0
    · rw [if_neg (by simpa using h)]
      constructor
      · intro h2 j hj
        rcases Nat.lt_or_ge j n with h3 | h3
        · exact fstE_zero.1 h j h3
        · obtain rfl : j = n := by omega
          exact h2
      · intro h2; exact h2 n (by omega)
    · rw [if_pos h]
      constructor
      · intro h2; exact absurd h2 h
      · intro h2; exact fstE_zero.2 fun j hj => h2 j (by omega)
theorem fstE_at {f : Nat → Int} {i : Nat} (h0 : ∀ j, j < i → f j = 0) (h1 : f i ≠ 0) : ∀ {n : Nat}, i < n → fstE f n = f i
  | 0, h => by omega
  | n + 1, h => by
    simp only [fstE]
    rcases Nat.lt_or_ge i n with h3 | h3
    · rw [fstE_at h0 h1 h3, if_pos h1]
    · obtain rfl : i = n := by omega
      rw [if_neg (by simpa using fstE_zero.2 h0)]
end Go.Proofs.Ytbaepacihkgalaa
