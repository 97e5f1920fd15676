/- A drawn call that is handed all rows from a place on, and makes rows; its arguments may stand under a guard. -/
import Derived.Test.YtbaepacihkgalaaPrs2
namespace Go.Proofs.Ytbaepacihkgalaa
open Go Go.Lite
set_option linter.unusedVariables false
set_option linter.unusedSimpArgs false
set_option maxRecDepth 100000
set_option maxHeartbeats 4000000

theorem callHFK {τ : TT} {fl : Nat → Bool} (E : Env A R Try.prog τ fl) (k0 : Nat) {s : SO} {r : List SO} {F : TF A} {H : TH A} {K : List DA → TF A → TH A → Prop} {f : Nat} {al as0 : List (TV A)} {H0 X0 Y : TH A} {v0 v : TV A} {ws : List (Nat × Option (TRow A))} {ρ : List Nat} (hc : TC R Try.prog f as0 H0 (fun v X => v = v0 ∧ X = X0)) (hρ : ρ = List.range' k0 H0.length)
    (hg : tgate F s.g = true) (hs : tcallD F s = some (f, al)) (hn : nodupB ρ = true) (hlt : ρ.all (Nat.blt · H.length) = true) (hl0 : H0.length = ρ.length) (hl1 : Nat.ble ρ.length X0.length = true) (ha : ∀ n, embC R (trenL (gOf ρ n) as0) = embC R al) (hrows : ∀ n, handOk (gOf ρ n) H ρ H0)
    (hx : tren (gOf ρ H.length) v0 = v) (hY : trenH (gOf ρ H.length) X0 = Y) (hws : ρ.zip (Y.take ρ.length) ++ twsOf H.length (Y.drop ρ.length) = ws)
    (k : TDr R Try.prog r (tlput s.dst v F) (tapply (H ++ List.replicate (X0.length - ρ.length) none) ws) (fun cs => K (⟨s.dst, emb R v, embW R ws, guardSlot s.g ++ slotsOf s.op, ρ, (twsOf H.length (Y.drop ρ.length)).map (·.1)⟩ :: cs))) : TDr R Try.prog (s :: r) F H K := by
  subst hx; subst hY; subst hws
  obtain ⟨g, args, tys, cap, hop, hgv, hu, hargs⟩ := tcallD_ok (R := R) hs
  have hl : ∀ h ∈ ρ, h < H.length := fun h hh => by simpa using List.all_eq_true.1 hlt h hh
  have hl1 : ρ.length ≤ X0.length := by simpa using hl1
  have hc2 : LC Try.prog f (embC R as0) (embH R H0) fun x G => x = emb R v0 ∧ G = embH R X0 := LC.mono hc fun x G ⟨y, X, ⟨q1, q2⟩, e1, e2⟩ => by subst q1 q2; exact ⟨e1, e2⟩
  have hf := SFact.handF (P := Try.prog) (X0 := embH R X0) ρ H.length (tgate_ok hg) hop hgv hu (nodupB_ok hn) (by rw [embH_length]; exact hl0) (by rw [embH_length]; exact hl1) hl (fun h hh => by rw [embH_length]; exact hl h hh)
    (fun n => by rw [hargs, ← ha n, trenL_emb, renL_eq]) (fun n j h cs hj hcs => by
      rw [embH_get] at hcs ⊢
      cases hx : H0[j]? with
      | none => rw [hx] at hcs; cases hcs
      | some x =>
        rw [hx] at hcs
        cases x with
        | none => cases hcs
        | some x =>
          obtain rfl := Option.some.inj (Option.some.inj hcs)
          rw [handOk_get (hrows n) j h x hj hx, Option.map_some, trenR_emb R E.ok]
          rfl) hc2 (fun y G e => e)
  have eY : embH R (trenH (gOf ρ H.length) X0) = (embH R X0).map (renR (gOf ρ H.length)) := trenH_emb R E.ok _ _
  have e1 : embW R (ρ.zip ((trenH (gOf ρ H.length) X0).take ρ.length) ++ twsOf H.length ((trenH (gOf ρ H.length) X0).drop ρ.length)) = ρ.zip (((embH R X0).take ρ.length).map (renR (gOf ρ H.length))) ++ wsOf H.length (((embH R X0).drop ρ.length).map (renR (gOf ρ H.length))) := by
    rw [embW_app, embW_zip, twsOf_emb, embH_take, embH_drop, eY, List.map_take, List.map_drop]
  have e2 : (twsOf H.length ((trenH (gOf ρ H.length) X0).drop ρ.length)).map (·.1) = (wsOf H.length (((embH R X0).drop ρ.length).map (renR (gOf ρ H.length)))).map (·.1) := by
    rw [← keys_embW (R := R), twsOf_emb, embH_drop, eY, List.map_drop]
  have hkeys : ∀ x ∈ (twsOf H.length ((trenH (gOf ρ H.length) X0).drop ρ.length)).map (·.1), H.length ≤ x ∧ x < H.length + (X0.length - ρ.length) := fun x hx => by
    rw [e2, keys_wsOf] at hx
    simpa [embH_length] using hx
  refine TDr.cons (e := X0.length - ρ.length) (c := ⟨s.dst, emb R (tren (gOf ρ H.length) v0), embW R (ρ.zip ((trenH (gOf ρ H.length) X0).take ρ.length) ++ twsOf H.length ((trenH (gOf ρ H.length) X0).drop ρ.length)), guardSlot s.g ++ slotsOf s.op, ρ, (twsOf H.length ((trenH (gOf ρ H.length) X0).drop ρ.length)).map (·.1)⟩)
    (hf.more rfl (by rw [tren_emb]) e1 e2 (fun t ht => ht) (fun q hq => hq)) rfl rfl hlt ?_ hkeys k
  refine List.all_eq_true.2 fun x hx => ?_
  simp only [List.map_append, List.mem_append] at hx
  have : x < H.length + (X0.length - ρ.length) := by
    rcases hx with hx | hx
    · obtain ⟨p, hp, rfl⟩ := List.mem_map.1 hx
      have := hl _ (List.of_mem_zip hp).1
      omega
    · exact (hkeys x hx).2
  simpa using this
end Go.Proofs.Ytbaepacihkgalaa
