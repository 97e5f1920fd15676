/- A drawn call that is handed all rows from a place on, and makes rows; its arguments may stand under a guard. -/
import Derived.Test.YtbaepacihkgalaaPrsF
import Derived.Test.YtbaepacihkgalaaGo
import Derived.Test.YtbaepacihkgalaaFst
namespace Go.Proofs.Ytbaepacihkgalaa
open Go Go.Lite
set_option linter.unusedVariables false
set_option linter.unusedSimpArgs false
set_option maxRecDepth 100000
set_option maxHeartbeats 100000000
-- @simp rdi rd6i rdLiJ

def kyA (us : Nat → Un) : Nat → Nat → List (Option (TRow A))
  | 0, _ => []
  | n + 1, i => some (.arr Ei (us i).ks) :: kyA us n (i + 1)
def kyC (Z u : Nat) : Nat → Nat → List (TV A)
  | 0, _ => []
  | n + 1, i => .sla 1 (2 * u + 2 + i) 0 Z :: kyC Z u n (i + 1)
/-- The rows while the keys are copied. -/
def kyR (S : Su) (u : Nat) (p : Ps) : Nat → List (Option (TRow A))
  | 0 => prR S u p
  | k + 1 => prR S u p ++ kyA p.us (k + 1) 0 ++ [some (.cells (kyC S.Z u (k + 1) 0))]
def kyV (u : Nat) : Nat → TV A
  | 0 => .nils
  | k + 1 => .sl 1 (2 * u + 2 + (k + 1)) 0 (k + 1)
def keys_c_P (n8 : Nat) : Prop := ∀ (S : Su) (u : Nat) (p : Ps) (hu : 1 ≤ u ∧ u ≤ 3) (hZ : Due (S.Z ≤ 16)) (ok : ∀ i, i < u → (p.us i).ks.length = S.Z) (e8 : u = n8), TC R Try.prog __press_Press__Keys_f [.ptr 0 0] (prR S u p) (fun v X => v = kyV u u ∧ X = kyR S u p u)
theorem keys_c_A {n8 : Nat} (h8 : keys_c_P n8 := by
    intro S u p hu hZ ok e8
    dsimp only [Due] at hZ
    refine tc env __press_Press__Keys_s (by rfl) ?_
    dsimp only [__press_Press__Keys_c]
    obtain ⟨hp, ehp⟩ : ∃ hp : Nat → List (Option (TRow A)), hp = kyR S u p := ⟨_, rfl⟩
    obtain ⟨hv, ehv⟩ : ∃ hv : Nat → TV A, hv = kyV u := ⟨_, rfl⟩
    obtain ⟨hF, ehF⟩ : ∃ hF : Nat → List (Nat × TV A), hF = fun k : Nat => [(11, .int .i64 (k : Int)), (10, .int .i64 (u : Int)), (9, .sl 7 1 0 u), (3, hv k)] := ⟨_, rfl⟩
    obtain ⟨w, hw⟩ : ∃ w, w = u := ⟨_, rfl⟩
    rw [← hw] at ok
    subst e8
    refine Tw.hE (by simp only [prR, prC, unsC, unC, unR, List.cons_append, List.nil_append, Nat.reduceAdd, Nat.reduceMul]; rfl) ?_
    repeat' (first
      | refine GZp_i_6i_LiJ ?_ ?_ ?_ ?_ ?_ ?_ ?_ ?_
      | with_reducible first | exact BzZq.mk | refine Tw.ret ?_ | refine ImZq.i fun h => ?_ | refine IkZq.i fun hk => ?_)
    refine Tw.loopK [0] (fun k : Nat => k ≤ w) (fun k => w - k) (fun k => hF k) (fun k => hp k) ⟨0, by omega, ?_⟩ (fun k hk => ?_)
    · rw [ehF, ehv]
      refine TWk.hE (by simp only [ehp, kyR, prR, prC, unsC, unC, unR, List.cons_append, List.nil_append, Nat.reduceAdd, Nat.reduceMul]; rfl) (TWk.fcanonR env 0 (by rfl) ?_)
      repeat' (first
        | refine GZ_i_6i_LiJ ?_ ?_ ?_ ?_ ?_ ?_ ?_ ?_
        | with_reducible first | exact BzZq.mk | refine Tw.ret ?_ | refine ImZq.i fun h => ?_ | refine IkZq.i fun hk => ?_)
    rw [ehF, ehv]
    rcases Nat.lt_or_ge k w with hk | hk
    · have b := below (i := k) (u := w) ⟨hk, by omega⟩
      have hrk := ok k hk
      have c1 : cut (p.us k).ks 0 S.Z = (p.us k).ks := cut_all hrk.symm
      have cl : S.Z = (cut (p.us k).ks 0 S.Z).length := by rw [c1, hrk]
      have le1 : 0 + S.Z ≤ (p.us k).ks.length := by omega
      have le2 : (cut (p.us k).ks 0 S.Z).length * 8 ≤ 140737488355328 ∧ (cut (p.us k).ks 0 S.Z).length ≤ 140737488355328 := by rw [c1]; omega
      obtain ⟨j, ej⟩ : ∃ j, j = k := ⟨_, rfl⟩
      rcases b with ⟨rfl, b⟩ | ⟨rfl, b⟩ | ⟨rfl, b⟩ | ⟨rfl, b⟩ | ⟨rfl, b⟩ | ⟨rfl, b⟩ | ⟨rfl, b⟩ | ⟨rfl, b⟩
      all_goals first | (exfalso; omega) | refine Tw.hE (by simp only [ehp, kyR, kyA, kyC, prR, prC, unsC, unC, unR, List.cons_append, List.nil_append, Nat.reduceAdd, Nat.reduceMul]; rfl) ?_
      all_goals
        repeat' (first
          | exact le1
          | exact le2
          | refine GZy_i_6i_LiJ hw ?_ ?_ ?_ ?_ ?_ ?_ ?_ ?_
          | with_reducible first | exact BzZq.mk | refine Tw.ret ?_ | refine ImZq.i fun h => ?_ | refine IkZq.i fun hk => ?_)
        refine ⟨j + 1, by omega, by omega, TWk.hE (by simp only [ehp, ej, kyR, kyA, kyC, prR, prC, unsC, unC, unR, List.cons_append, List.nil_append, Nat.reduceAdd, Nat.reduceMul]; rfl) ?_⟩
        rw [ej]
        first | refine TWk.fcanonG env (fun n => (List.range (n - 2)).map some ++ [some (n - 1), some (n + 1)]) (by rfl) ?_ | refine TWk.fcanonG env (fun n => (List.range (n - 2)).map some ++ [some n, some (n + 2)]) (by rfl) ?_
        repeat' (first
          | exact c1.symm
          | exact cl
          | exact rfl
          | refine GZ_i_6i_LiJ ?_ ?_ ?_ ?_ ?_ ?_ ?_ ?_
          | with_reducible first | exact BzZq.mk | refine Tw.ret ?_ | refine ImZq.i fun h => ?_ | refine IkZq.i fun hk => ?_)
    · obtain rfl : w = k := by omega
      refine Tw.hE (by simp only [ehp, hw, kyR, kyA, kyC, prR, prC, unsC, unC, unR, List.cons_append, List.nil_append, Nat.reduceAdd, Nat.reduceMul]; rfl) ?_
      rw [hw]
      repeat' (first
        | refine GZy_i_6i_LiJ hw ?_ ?_ ?_ ?_ ?_ ?_ ?_ ?_
        | with_reducible first | exact BzZq.mk | refine Tw.ret ?_ | refine ImZq.i fun h => ?_ | refine IkZq.i fun hk => ?_)
      all_goals exact ⟨rfl, rfl⟩) : keys_c_P n8 := h8
theorem keys_c_1 : keys_c_P 1 := keys_c_A
theorem keys_c_2 : keys_c_P 2 := keys_c_A
theorem keys_c_3 : keys_c_P 3 := keys_c_A
theorem keys_c (S : Su) (u : Nat) (p : Ps) (hu : 1 ≤ u ∧ u ≤ 3) (hZ : Due (S.Z ≤ 16)) (ok : ∀ i, i < u → (p.us i).ks.length = S.Z) : TC R Try.prog __press_Press__Keys_f [.ptr 0 0] (prR S u p) (fun v X => v = kyV u u ∧ X = kyR S u p u) := by
  rcases eight (u := u) (hu) with e8 | e8 | e8
  · exact keys_c_1 S u p hu hZ ok e8
  · exact keys_c_2 S u p hu hZ ok e8
  · exact keys_c_3 S u p hu hZ ok e8
end Go.Proofs.Ytbaepacihkgalaa
namespace Go.Proofs.Ytbaepacihkgalaa
open Go Go.Lite
set_option linter.unusedVariables false
set_option linter.unusedSimpArgs false
set_option maxRecDepth 100000
set_option maxHeartbeats 4000000

theorem callHFK {τ : TT} {fl : Nat → Bool} (E : Env A R Try.prog τ fl) (k0 : Nat) {s : SO} {r : List SO} {F : TF A} {H : TH A} {K : List DA → TF A → TH A → Prop} {f : Nat} {al as0 : List (TV A)} {H0 X0 Y : TH A} {v0 v : TV A} {ws : List (Nat × Option (TRow A))} {ρ : List Nat} (hc : TC R Try.prog f as0 H0 (fun v X => v = v0 ∧ X = X0)) (hρ : ρ = List.range' k0 H0.length)
    (hg : tgate F s.g = true) (hs : tcallD F s = some (f, al)) (hn : nodupB ρ = true) (hlt : ρ.all (Nat.blt · H.length) = true) (hl0 : H0.length = ρ.length) (hl1 : Nat.ble ρ.length X0.length = true) (ha : ∀ n, embC R (trenL (gOf ρ n) as0) = embC R al) (hrows : ∀ n, handOk (gOf ρ n) H ρ H0)
    (hx : tren (gOf ρ H.length) v0 = v) (hY : trenH (gOf ρ H.length) X0 = Y) (hws : ρ.zip (Y.take ρ.length) ++ twsOf H.length (Y.drop ρ.length) = ws)
    (k : TDr R Try.prog r (tlput s.dst v F) (tapply (H ++ List.replicate (X0.length - ρ.length) none) ws) (fun cs => K (⟨s.dst, emb R v, embW R ws, guardSlot s.g ++ slotsOf s.op, ρ, (twsOf H.length (Y.drop ρ.length)).map (·.1)⟩ :: cs))) : TDr R Try.prog (s :: r) F H K := by
  subst hx; subst hY; subst hws
  obtain ⟨g, args, tys, cap, hop, hgv, hu, hargs⟩ := tcallD_ok (R := R) hs
  have hl : ∀ h ∈ ρ, h < H.length := fun h hh => by simpa using List.all_eq_true.1 hlt h hh
  have hl1 : ρ.length ≤ X0.length := by simpa using hl1
  have hc2 : LC Try.prog f (embC R as0) (embH R H0) fun x G => x = emb R v0 ∧ G = embH R X0 := LC.mono hc fun x G ⟨y, X, ⟨q1, q2⟩, e1, e2⟩ => by subst q1 q2; exact ⟨e1, e2⟩
  have hf := SFact.handF (P := Try.prog) (X0 := embH R X0) ρ H.length (tgate_ok hg) hop hgv hu (nodupB_ok hn) (by rw [embH_length]; exact hl0) (by rw [embH_length]; exact hl1) hl (fun h hh => by rw [embH_length]; exact hl h hh)
    (fun n => by rw [hargs, ← ha n, trenL_emb, renL_eq]) (fun n j h cs hj hcs => by
      rw [embH_get] at hcs ⊢
      cases hx : H0[j]? with
      | none => rw [hx] at hcs; cases hcs
      | some x =>
        rw [hx] at hcs
        cases x with
        | none => cases hcs
        | some x =>
          obtain rfl := Option.some.inj (Option.some.inj hcs)
          rw [handOk_get (hrows n) j h x hj hx, Option.map_some, trenR_emb R E.ok]
          rfl) hc2 (fun y G e => e)
  have eY : embH R (trenH (gOf ρ H.length) X0) = (embH R X0).map (renR (gOf ρ H.length)) := trenH_emb R E.ok _ _
  have e1 : embW R (ρ.zip ((trenH (gOf ρ H.length) X0).take ρ.length) ++ twsOf H.length ((trenH (gOf ρ H.length) X0).drop ρ.length)) = ρ.zip (((embH R X0).take ρ.length).map (renR (gOf ρ H.length))) ++ wsOf H.length (((embH R X0).drop ρ.length).map (renR (gOf ρ H.length))) := by
    rw [embW_app, embW_zip, twsOf_emb, embH_take, embH_drop, eY, List.map_take, List.map_drop]
  have e2 : (twsOf H.length ((trenH (gOf ρ H.length) X0).drop ρ.length)).map (·.1) = (wsOf H.length (((embH R X0).drop ρ.length).map (renR (gOf ρ H.length)))).map (·.1) := by
    rw [← keys_embW (R := R), twsOf_emb, embH_drop, eY, List.map_drop]
  have hkeys : ∀ x ∈ (twsOf H.length ((trenH (gOf ρ H.length) X0).drop ρ.length)).map (·.1), H.length ≤ x ∧ x < H.length + (X0.length - ρ.length) := fun x hx => by
    rw [e2, keys_wsOf] at hx
    simpa [embH_length] using hx
  refine TDr.cons (e := X0.length - ρ.length) (c := ⟨s.dst, emb R (tren (gOf ρ H.length) v0), embW R (ρ.zip ((trenH (gOf ρ H.length) X0).take ρ.length) ++ twsOf H.length ((trenH (gOf ρ H.length) X0).drop ρ.length)), guardSlot s.g ++ slotsOf s.op, ρ, (twsOf H.length ((trenH (gOf ρ H.length) X0).drop ρ.length)).map (·.1)⟩)
    (hf.more rfl (by rw [tren_emb]) e1 e2 (fun t ht => ht) (fun q hq => hq)) rfl rfl hlt ?_ hkeys k
  refine List.all_eq_true.2 fun x hx => ?_
  simp only [List.map_append, List.mem_append] at hx
  have : x < H.length + (X0.length - ρ.length) := by
    rcases hx with hx | hx
    · obtain ⟨p, hp, rfl⟩ := List.mem_map.1 hx
      have := hl _ (List.of_mem_zip hp).1
      omega
    · exact (hkeys x hx).2
  simpa using this
end Go.Proofs.Ytbaepacihkgalaa
