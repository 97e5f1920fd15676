/- Presses: the ink keys. -/
import Derived.Test.YtbaepacihkgalaaPrsE
import Derived.Test.YtbaepacihkgalaaGo
namespace Go.Proofs.Ytbaepacihkgalaa
open Go Go.Lite
set_option linter.unusedVariables false
set_option linter.unusedSimpArgs false
set_option maxRecDepth 100000
set_option maxHeartbeats 100000000
-- @simp rdi rd6i rdLiJ

def kyA (us : Nat → Un) : Nat → Nat → List (Option (TRow A))
  | 0, _ => []
  | n + 1, i => some (.arr Ei (us i).ks) :: kyA us n (i + 1)
def kyC (Z u : Nat) : Nat → Nat → List (TV A)
  | 0, _ => []
  | n + 1, i => .sla 1 (2 * u + 2 + i) 0 Z :: kyC Z u n (i + 1)
/-- The rows while the keys are copied. -/
def kyR (S : Su) (u : Nat) (p : Ps) : Nat → List (Option (TRow A))
  | 0 => prR S u p
  | k + 1 => prR S u p ++ kyA p.us (k + 1) 0 ++ [some (.cells (kyC S.Z u (k + 1) 0))]
def kyV (u : Nat) : Nat → TV A
  | 0 => .nils
  | k + 1 => .sl 1 (2 * u + 2 + (k + 1)) 0 (k + 1)
def keys_c_P (n8 : Nat) : Prop := ∀ (S : Su) (u : Nat) (p : Ps) (hu : 1 ≤ u ∧ u ≤ 8) (hZ : Due (S.Z ≤ 16)) (ok : ∀ i, i < u → (p.us i).ks.length = S.Z) (e8 : u = n8), TC R Try.prog __press_Press__Keys_f [.ptr 0 0] (prR S u p) (fun v X => v = kyV u u ∧ X = kyR S u p u)
theorem keys_c_A {n8 : Nat} (h8 : keys_c_P n8 := by
    intro S u p hu hZ ok e8
    dsimp only [Due] at hZ
    refine tc env __press_Press__Keys_s (by rfl) ?_
    dsimp only [__press_Press__Keys_c]
    obtain ⟨hp, ehp⟩ : ∃ hp : Nat → List (Option (TRow A)), hp = kyR S u p := ⟨_, rfl⟩
    obtain ⟨hv, ehv⟩ : ∃ hv : Nat → TV A, hv = kyV u := ⟨_, rfl⟩
    obtain ⟨hF, ehF⟩ : ∃ hF : Nat → List (Nat × TV A), hF = fun k : Nat => [(11, .int .i64 (k : Int)), (10, .int .i64 (u : Int)), (9, .sl 7 1 0 u), (3, hv k)] := ⟨_, rfl⟩
    obtain ⟨w, hw⟩ : ∃ w, w = u := ⟨_, rfl⟩
    rw [← hw] at ok
    subst e8
    refine Tw.hE (by simp only [prR, prC, unsC, unC, unR, List.cons_append, List.nil_append, Nat.reduceAdd, Nat.reduceMul]; rfl) ?_
    repeat' (first
      | refine GZp_i_6i_LiJ ?_ ?_ ?_ ?_ ?_ ?_ ?_ ?_
      | with_reducible first | exact BzZq.mk | refine Tw.ret ?_ | refine ImZq.i fun h => ?_ | refine IkZq.i fun hk => ?_)
    refine Tw.loopK [0] (fun k : Nat => k ≤ w) (fun k => w - k) (fun k => hF k) (fun k => hp k) ⟨0, by omega, ?_⟩ (fun k hk => ?_)
    · rw [ehF, ehv]
      refine TWk.hE (by simp only [ehp, kyR, prR, prC, unsC, unC, unR, List.cons_append, List.nil_append, Nat.reduceAdd, Nat.reduceMul]; rfl) (TWk.fcanonR env 0 (by rfl) ?_)
      repeat' (first
        | refine GZ_i_6i_LiJ ?_ ?_ ?_ ?_ ?_ ?_ ?_ ?_
        | with_reducible first | exact BzZq.mk | refine Tw.ret ?_ | refine ImZq.i fun h => ?_ | refine IkZq.i fun hk => ?_)
    rw [ehF, ehv]
    rcases Nat.lt_or_ge k w with hk | hk
    · have b := below (i := k) (u := w) ⟨hk, by omega⟩
      have hrk := ok k hk
      have c1 : cut (p.us k).ks 0 S.Z = (p.us k).ks := cut_all hrk.symm
      have cl : S.Z = (cut (p.us k).ks 0 S.Z).length := by rw [c1, hrk]
      have le1 : 0 + S.Z ≤ (p.us k).ks.length := by omega
      have le2 : (cut (p.us k).ks 0 S.Z).length * 8 ≤ 140737488355328 ∧ (cut (p.us k).ks 0 S.Z).length ≤ 140737488355328 := by rw [c1]; omega
      obtain ⟨j, ej⟩ : ∃ j, j = k := ⟨_, rfl⟩
      rcases b with ⟨rfl, b⟩ | ⟨rfl, b⟩ | ⟨rfl, b⟩ | ⟨rfl, b⟩ | ⟨rfl, b⟩ | ⟨rfl, b⟩ | ⟨rfl, b⟩ | ⟨rfl, b⟩
      all_goals first | (exfalso; omega) | refine Tw.hE (by simp only [ehp, kyR, kyA, kyC, prR, prC, unsC, unC, unR, List.cons_append, List.nil_append, Nat.reduceAdd, Nat.reduceMul]; rfl) ?_
      all_goals
        repeat' (first
          | exact le1
          | exact le2
          | refine GZy_i_6i_LiJ hw ?_ ?_ ?_ ?_ ?_ ?_ ?_ ?_
          | with_reducible first | exact BzZq.mk | refine Tw.ret ?_ | refine ImZq.i fun h => ?_ | refine IkZq.i fun hk => ?_)
        refine ⟨j + 1, by omega, by omega, TWk.hE (by simp only [ehp, ej, kyR, kyA, kyC, prR, prC, unsC, unC, unR, List.cons_append, List.nil_append, Nat.reduceAdd, Nat.reduceMul]; rfl) ?_⟩
        rw [ej]
        first | refine TWk.fcanonG env (fun n => (List.range (n - 2)).map some ++ [some (n - 1), some (n + 1)]) (by rfl) ?_ | refine TWk.fcanonG env (fun n => (List.range (n - 2)).map some ++ [some n, some (n + 2)]) (by rfl) ?_
        repeat' (first
          | exact c1.symm
          | exact cl
          | exact rfl
          | refine GZ_i_6i_LiJ ?_ ?_ ?_ ?_ ?_ ?_ ?_ ?_
          | with_reducible first | exact BzZq.mk | refine Tw.ret ?_ | refine ImZq.i fun h => ?_ | refine IkZq.i fun hk => ?_)
    · obtain rfl : w = k := by omega
      refine Tw.hE (by simp only [ehp, hw, kyR, kyA, kyC, prR, prC, unsC, unC, unR, List.cons_append, List.nil_append, Nat.reduceAdd, Nat.reduceMul]; rfl) ?_
      rw [hw]
      repeat' (first
        | refine GZy_i_6i_LiJ hw ?_ ?_ ?_ ?_ ?_ ?_ ?_ ?_
        | with_reducible first | exact BzZq.mk | refine Tw.ret ?_ | refine ImZq.i fun h => ?_ | refine IkZq.i fun hk => ?_)
      all_goals exact ⟨rfl, rfl⟩) : keys_c_P n8 := h8
theorem keys_c_1 : keys_c_P 1 := keys_c_A
theorem keys_c_2 : keys_c_P 2 := keys_c_A
theorem keys_c_3 : keys_c_P 3 := keys_c_A
theorem keys_c_4 : keys_c_P 4 := keys_c_A
theorem keys_c_5 : keys_c_P 5 := keys_c_A
theorem keys_c_6 : keys_c_P 6 := keys_c_A
theorem keys_c_7 : keys_c_P 7 := keys_c_A
theorem keys_c_8 : keys_c_P 8 := keys_c_A
theorem keys_c (S : Su) (u : Nat) (p : Ps) (hu : 1 ≤ u ∧ u ≤ 8) (hZ : Due (S.Z ≤ 16)) (ok : ∀ i, i < u → (p.us i).ks.length = S.Z) : TC R Try.prog __press_Press__Keys_f [.ptr 0 0] (prR S u p) (fun v X => v = kyV u u ∧ X = kyR S u p u) := by
  rcases eight (u := u) (hu) with e8 | e8 | e8 | e8 | e8 | e8 | e8 | e8
  · exact keys_c_1 S u p hu hZ ok e8
  · exact keys_c_2 S u p hu hZ ok e8
  · exact keys_c_3 S u p hu hZ ok e8
  · exact keys_c_4 S u p hu hZ ok e8
  · exact keys_c_5 S u p hu hZ ok e8
  · exact keys_c_6 S u p hu hZ ok e8
  · exact keys_c_7 S u p hu hZ ok e8
  · exact keys_c_8 S u p hu hZ ok e8
end Go.Proofs.Ytbaepacihkgalaa
