/- Libraries of spot inks: Check, Quick, Expand. -/
import Derived.Test.YtogbkhopanaoiaaSpot1
import Derived.Test.YtogbkhopanaoiaaGo
namespace Go.Proofs.Ytogbkhopanaoiaa
open Go Go.Lite
set_option linter.unusedVariables false
set_option linter.unusedSimpArgs false
set_option maxRecDepth 100000
set_option maxHeartbeats 4000000
-- @simp rdi rd2i

abbrev dS : Sp := R.d Es6iL2iJLiJ
noncomputable def spEs (s : Sp) : Int := spE s.1 s.2.1 s.2.2.1 s.2.2.2.1 s.2.2.2.2.1 s.2.2.2.2.2.1 s.2.2.2.2.2.2.1 s.2.2.2.2.2.2.2.1 s.2.2.2.2.2.2.2.2
def libOk (l : List Sp) : Prop := l.length ≤ 40 ∧ ∀ i, i < l.length → spEs (l.getD i dS) = 0 ∧ ∀ j, j < i → (l.getD j dS).1 ≠ (l.getD i dS).1
theorem oneS_c (s : Sp) (w : Due (Ws6iL2iJLiJ s)) : TC R Try.prog spot_one_f [.pel (enc3 s)] [] (fun v X => v = .int .i64 (spEs s) ∧ X = []) := by
  obtain ⟨w1, _, _, _, _, _, _, w2, w3⟩ := w
  exact one_c _ _ _ _ _ _ _ _ _ w1 w3.1

/-- One tone of a tint. -/
noncomputable def qk (s : Sp) (x : Int) (v : Int) : Int := near (v * raw s.2.2.2.2.2.2.2.1 (256 * x)) 65280
noncomputable def quickS (s : Sp) (x : Int) : List Int := s.2.2.2.2.2.2.2.2.map (qk s x)
theorem spQuick_r (s : Sp) (x : Int) (h : Due (spEs s = 0)) (hx : Due (0 ≤ x ∧ x ≤ 255)) : TC R Try.prog spot_Quick_f [.pel (enc3 s), .int .i64 x] [] (fun v X => v = .sla 1 0 0 (quickS s x).length ∧ X = [some (.arr Ei (quickS s x))]) := by
  dsimp only [Due] at h hx
  obtain ⟨g1, g2, g3, g4, g5, g6⟩ := spE_ok.1 h
  have g7 := (tonesE_ok.1 g6).2
  have v := check_ok g4
  have hr := raw_bd v (x := 256 * x) (by omega)
  have hm := v.rg (s.2.2.2.2.2.2.2.1.length - 1) (by have := v.len; omega)
  have hlen : (quickS s x).length = s.2.2.2.2.2.2.2.2.length := by simp [quickS]
  have hget : ∀ i, i < s.2.2.2.2.2.2.2.2.length → (quickS s x).getD i 0 = qk s x (s.2.2.2.2.2.2.2.2.getD i 0) := fun i hi => by
    rw [getD_get 0 (by rw [hlen]; exact hi), getD_get 0 hi]; simp [quickS]
  refine tc env spot_Quick_s (by rfl) ?_
  dsimp only [spot_Quick_c, enc3]
  repeat' (first
    | refine GZ_i_2i ?_ ?_ ?_ ?_ ?_ ?_ ?_ ?_
    | with_reducible first | exact BzZq.mk | refine Tw.ret ?_ | refine ImZq.i fun h => ?_ | refine IkZq.i fun hk => ?_)
  refine Tw.loopK [0, 1, 17, 18] (fun p : Nat × List Int => p.1 ≤ s.2.2.2.2.2.2.2.2.length ∧ p.2.length = s.2.2.2.2.2.2.2.2.length ∧ ∀ j, j < p.1 → p.2.getD j 0 = qk s x (s.2.2.2.2.2.2.2.2.getD j 0)) (fun p => s.2.2.2.2.2.2.2.2.length - p.1)
    (fun p => [(19, .int .i64 p.1), (5, .sla 1 0 0 p.2.length)]) (fun p => [some (.arr Ei p.2)]) ⟨(0, List.replicate s.2.2.2.2.2.2.2.2.length 0), ⟨by dsimp only; omega, by simp, fun j hj => by dsimp only at hj; omega⟩, TWk.fcanon env [some 0] (by rfl) ?_⟩ (fun p hp => ?_)
  · repeat' (first
      | with_reducible first | exact Conj.nil | refine Conj.cons rfl ?_ | refine Conj.same ?_ | refine Conj.ask ?_ ?_
      | ((with_reducible refine Due.mk ?_); (first | with_reducible rfl | omega | assumption | decide | ((try simp only [goS] at *) <;> (try intro h) <;> (try intro h') <;> (try simp only [goS] at *) <;> (try simp only [rdi, rd2i, Int.toNat_natCast, Nat.add_zero] at *) <;> (try simp only [rng]) <;> (first | assumption | omega)) | (exact due_app0 (by omega)) | (exact due_app (by omega)) | (intros; simp; done) | (intros; simp; omega)))
      | with_reducible refine Due.mk ?_
      | omega)
  obtain ⟨i, t⟩ := p
  dsimp only at hp ⊢
  rcases Nat.lt_or_ge i s.2.2.2.2.2.2.2.2.length with hi | hi
  · have hv := g7 i hi
    have hb : 0 ≤ s.2.2.2.2.2.2.2.2.getD i 0 * raw s.2.2.2.2.2.2.2.1 (256 * x) ∧ s.2.2.2.2.2.2.2.2.getD i 0 * raw s.2.2.2.2.2.2.2.1 (256 * x) ≤ 255 * 65280 := ⟨Int.mul_nonneg (by omega) (by omega), Int.mul_le_mul (by omega) (by omega) (by omega) (by omega)⟩
    repeat' (first
      | ((with_reducible refine TOps.any ?_); refine TOps.callV env (by rfl) (by rfl) (by rfl) (raw_c _ _ v ?_) ?_)
      | ((with_reducible refine TOps.any ?_); refine TOps.callV env (by rfl) (by rfl) (by rfl) (nearest_c _ _ ?_) ?_)
      | refine GZp_i_2i ?_ ?_ ?_ ?_ ?_ ?_ ?_ ?_
      | with_reducible first | exact BzZq.mk | refine Tw.ret ?_ | refine ImZq.i fun h => ?_ | refine IkZq.i fun hk => ?_)
    refine ⟨(i + 1, t.set i (qk s x (s.2.2.2.2.2.2.2.2.getD i 0))), ⟨by dsimp only; omega, by simpa using hp.2.1, fun j hj => ?_⟩, by dsimp only; omega, TWk.fcanon env [some 0] (by rfl) ?_⟩
    · dsimp only at hj ⊢
      by_cases e : j = i
      · subst e; rw [getD_set_eq (by omega)]
      · rw [getD_set_ne (by omega)]; exact hp.2.2 j (by omega)
    · repeat' (first
        | refine GZ_i_2i ?_ ?_ ?_ ?_ ?_ ?_ ?_ ?_
        | with_reducible first | exact BzZq.mk | refine Tw.ret ?_ | refine ImZq.i fun h => ?_ | refine IkZq.i fun hk => ?_)
      all_goals first | rfl | simp
  · repeat' (first
      | refine GZp_i_2i ?_ ?_ ?_ ?_ ?_ ?_ ?_ ?_
      | with_reducible first | exact BzZq.mk | refine Tw.ret ?_ | refine ImZq.i fun h => ?_ | refine IkZq.i fun hk => ?_)
    rw [ext_getD 0 (a := t) (b := quickS s x) (by rw [hlen]; exact hp.2.1) fun j hj => by rw [hget j (by omega)]; exact hp.2.2 j (by omega)]
    exact ⟨rfl, rfl⟩
theorem spQuick_c (s : Sp) (x : Int) (h : Due (spEs s = 0)) (hx : Due (0 ≤ x ∧ x ≤ 255)) : TC R Try.prog spot_Quick_f [.pel (enc3 s), .int .i64 x] [] (fun v X => v = .lst Ei (quickS s x) ∧ X = []) := by
  refine (spQuick_r s x h hx).wk fun v X h => ?_
  obtain ⟨rfl, rfl⟩ := h
  exact ⟨_, [], TWk.frzS env (e := Ei) rfl, rfl, rfl⟩

/-- Where a name stands. -/
def at1 (l : List Sp) (n : ByteArray) : Nat := l.findIdx fun s => decide (s.1 = n)
theorem at1_le (l : List Sp) (n : ByteArray) : at1 l n ≤ l.length := List.findIdx_le_length
structure ExpOk (l : List Sp) (pr : List Int) (ns : List ByteArray) (ts : List Int) : Prop where
  lib : libOk l
  p8 : pr.length ≤ 8
  n8 : ns.length ≤ 8
  pt : inTone pr
  tt : inTone ts
  tn : ts.length = ns.length
  ink : ∀ k, k < ns.length → at1 l (ns.getD k dB) < l.length ∧ (l.getD (at1 l (ns.getD k dB)) dS).2.2.2.2.2.2.2.2.length = pr.length
end Go.Proofs.Ytogbkhopanaoiaa
