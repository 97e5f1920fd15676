/- Range coder: an encoder is closed. -/
import Derived.Test.YtjedljdfkoagbaaRc4
import Derived.Test.YtjedljdfkoagbaaGo
namespace Go.Proofs.Ytjedljdfkoagbaa
open Go Go.Lite
set_option linter.unusedVariables false
set_option linter.unusedSimpArgs false
set_option maxRecDepth 100000
set_option maxHeartbeats 4000000
-- @simp rdi rdy

/-- Where the zeros begin that end the first m of a list. -/
def lz (L : List Int) : Nat → Nat
  | 0 => 0
  | m + 1 => if L.getD m 0 = 0 then lz L m else m + 1
theorem lz_le {L : List Int} : ∀ {m : Nat}, lz L m ≤ m
  | 0 => Nat.le_refl _
  | m + 1 => by
    simp only [lz]
    split
    · exact Nat.le_succ_of_le lz_le
    · exact Nat.le_refl _
theorem lz_zero {L : List Int} : ∀ {m k : Nat}, lz L m ≤ k → k < m → L.getD k 0 = 0
  | m + 1, k, h1, h2 => by
    simp only [lz] at h1
    split at h1
    · rcases Nat.lt_or_ge k m with h | h
      · exact lz_zero h1 h
      · have : k = m := by omega
        subst this; assumption
    · omega
theorem top4 {n V : Nat} : dg (n + 4) V = top n V ++ [low V / 16777216 % 256, low V / 65536 % 256, low V / 256 % 256, low V % 256] := by
  simp only [dg, top]
  have e : V / 256 / 256 / 256 / 256 = V / 4294967296 := by omega
  rw [e, List.append_assoc, List.append_assoc, List.append_assoc]
  refine congrArg (fun z => dg n (V / 4294967296) ++ z) ?_
  unfold low
  simp only [List.cons_append, List.nil_append]
  refine congr (congrArg List.cons ?_) (congr (congrArg List.cons ?_) (congr (congrArg List.cons ?_) (congrArg (· :: []) ?_)))
  all_goals omega

theorem close_c (cs : Cx) (w b : Int) (V n : Nat) (hc : cs.length ≤ 4096) (hn : n ≤ 2000000) :
    TC R Try.prog __rangecoder_Encoder__Close_f [.ptr 0 0] (enR cs w b (low V) n (top n V))
      (fun v X => v = .tup [.sla 1 3 0 (lz (dg (n + 4) V) (n + 4)), .int .i64 0] ∧
        X = [some (.cells [.sla 2 1 0 cs.length, .int .u32 w, .int .i64 b, .int .u32 (low V), .sla 1 2 0 n, .bool true]), some (.arr E2w cs), some (.arr Ey (top n V)), some (.arr Ey (cut (dg (n + 4) V) 0 (lz (dg (n + 4) V) (n + 4))))]) := by
  have tl : (top n V).length = n := top_len
  have ct : cut (top n V) 0 n = top n V := cut_all tl.symm
  have lb : 0 ≤ low V ∧ low V ≤ 4294967295 := by unfold low; omega
  obtain ⟨L, hL⟩ : ∃ L, L = dg (n + 4) V := ⟨_, rfl⟩
  have lL : L.length = n + 4 := by rw [hL]; exact dg_len
  have bL : ∀ i, i < n + 4 → 0 ≤ L.getD i 0 ∧ L.getD i 0 ≤ 255 := fun i hi => by rw [hL]; exact dg_bytes hi
  rw [← hL]
  have dl : ∀ m, m ≤ n + 4 → (cut L 0 m).length = m := fun m hm => by rw [show cut L 0 m = L.take m from rfl, List.length_take]; omega
  have raw : TC R Try.prog __rangecoder_Encoder__Close_f [.ptr 0 0] (enR cs w b (low V) n (top n V))
      (fun v X => ∃ m, m = lz L (n + 4) ∧ v = .tup [.sla 1 4 0 (cut L 0 m).length, .int .i64 0] ∧
        X = [some (.cells [.sla 2 1 0 cs.length, .int .u32 w, .int .i64 b, .int .u32 (low V), .sla 1 2 0 n, .bool true]), some (.arr E2w cs), some (.arr Ey (top n V)), some (.arr Ey L), some (.arr Ey (cut L 0 m))]) := by
   refine tc env __rangecoder_Encoder__Close_s (by rfl) ?_
   dsimp only [__rangecoder_Encoder__Close_c, enR]
   have d1 : (cut (top n V) 0 n).length * 1 ≤ 140737488355328 ∧ (cut (top n V) 0 n).length ≤ 140737488355328 := by rw [ct, tl]; omega
   obtain ⟨L4, hL4⟩ : ∃ l : List Int, l = [low V / 2 ^ Int.toNat 24 % 256, low V / 2 ^ Int.toNat 16 % 256, low V / 2 ^ Int.toNat 8 % 256, low V % 256] := ⟨_, rfl⟩
   have l4 : L4.length = 4 := by rw [hL4]; rfl
   have c4 : cut L4 0 4 = L4 := cut_all l4.symm
   have d2 : ((cut (top n V) 0 n).length + (cut L4 0 4).length) * 1 ≤ 140737488355328 ∧ (cut (top n V) 0 n).length + (cut L4 0 4).length ≤ 140737488355328 := by rw [ct, c4, tl, l4]; omega
   have d3 : n + 4 = (cut (top n V) 0 n).length + (cut L4 0 4).length := by rw [ct, c4, tl, l4]
   have d4 : L = cut (cut (top n V) 0 n) 0 (cut (top n V) 0 n).length ++ cut L4 0 4 := by
     rw [c4, ct, cut_all rfl, hL, top4, hL4]
     rfl
   subst hL4
   repeat' (first
     | exact d1
     | exact d2
     | refine GZp_i_y ?_ ?_ ?_ ?_ ?_ ?_ ?_ ?_
     | with_reducible first | exact BzZq.mk | refine Tw.ret ?_ | refine ImZq.i fun h => ?_ | refine IkZq.i fun hk => ?_)
   refine Tw.loopK [] (fun m : Nat => m ≤ n + 4 ∧ lz L m = lz L (n + 4)) (fun m => m) (fun m => [(4, .sla 1 3 0 m)])
     (fun m => [some (.cells [.sla 2 1 0 cs.length, .int .u32 w, .int .i64 b, .int .u32 (low V), .sla 1 2 0 n, .bool true]), some (.arr E2w cs), some (.arr Ey (top n V)), some (.arr Ey L)])
     ⟨n + 4, ⟨Nat.le_refl _, rfl⟩, TWk.fcanon env [some 0, some 1, some 2, some 5] (by rfl) ?_⟩ (fun m hm => ?_)
   · repeat' (first
       | exact d3
       | exact d4
       | with_reducible first | exact Conj.nil | refine Conj.cons rfl ?_ | refine Conj.same ?_ | refine Conj.ask ?_ ?_
       | ((with_reducible refine Due.mk ?_); (first | with_reducible rfl | omega | assumption | decide | ((try simp only [goS] at *) <;> (try intro h) <;> (try intro h') <;> (try simp only [goS] at *) <;> (try simp only [rdi, rdy, Int.toNat_natCast, Nat.add_zero] at *) <;> (try simp only [rng]) <;> (first | assumption | omega)) | (exact due_app0 (by omega)) | (exact due_app (by omega)) | (intros; simp; done) | (intros; simp; omega)))
       | with_reducible refine Due.mk ?_
       | omega)
   obtain ⟨hm, he⟩ := hm
   have d5 : (cut L 0 m).length * 1 ≤ 140737488355328 ∧ (cut L 0 m).length ≤ 140737488355328 := by rw [dl m hm]; omega
   rcases m with _ | m
   · repeat' (first
       | exact d5
       | refine GZp_i_y ?_ ?_ ?_ ?_ ?_ ?_ ?_ ?_
       | with_reducible first | exact BzZq.mk | refine Tw.ret ?_ | refine ImZq.i fun h => ?_ | refine IkZq.i fun hk => ?_)
     exact ⟨0, he, rfl, rfl⟩
   · have g1 := bL m hm
     have s1 : (((m + 1 : Nat) : Int) - 1).toNat = m := by omega
     by_cases hz : L.getD m 0 = 0
     · have e1 : lz L (m + 1) = lz L m := if_pos hz
       repeat' (first
         | exact d5
         | refine GZy_i_y s1 ?_ ?_ ?_ ?_ ?_ ?_ ?_ ?_
         | with_reducible first | exact BzZq.mk | refine Tw.ret ?_ | refine ImZq.i fun h => ?_ | refine IkZq.i fun hk => ?_)
       refine ⟨m, ⟨by omega, by rw [← he, e1]⟩, by omega, TWk.fcanon env [some 0, some 1, some 2, some 3] (by rfl) ?_⟩
       repeat' (first
         | exact s1.symm
         | with_reducible first | exact Conj.nil | refine Conj.cons rfl ?_ | refine Conj.same ?_ | refine Conj.ask ?_ ?_
         | ((with_reducible refine Due.mk ?_); (first | with_reducible rfl | omega | assumption | decide | ((try simp only [goS] at *) <;> (try intro h) <;> (try intro h') <;> (try simp only [goS] at *) <;> (try simp only [rdi, rdy, Int.toNat_natCast, Nat.add_zero] at *) <;> (try simp only [rng]) <;> (first | assumption | omega)) | (exact due_app0 (by omega)) | (exact due_app (by omega)) | (intros; simp; done) | (intros; simp; omega)))
         | with_reducible refine Due.mk ?_
         | omega)
     · have e1 : lz L (m + 1) = m + 1 := if_neg hz
       repeat' (first
         | exact d5
         | refine GZy_i_y s1 ?_ ?_ ?_ ?_ ?_ ?_ ?_ ?_
         | with_reducible first | exact BzZq.mk | refine Tw.ret ?_ | refine ImZq.i fun h => ?_ | refine IkZq.i fun hk => ?_)
       exact ⟨m + 1, by rw [← he, e1], rfl, rfl⟩
  refine raw.wk fun v X h => ?_
  obtain ⟨m, rfl, rfl, rfl⟩ := h
  have lm := lz_le (L := L) (m := n + 4)
  rw [dl _ lm]
  exact ⟨_, _, TWk.fcanon env [some 0, some 1, some 2, some 4] (by rfl) (by repeat' (first | exact trivial | refine ⟨rfl, ?_⟩)), rfl, rfl⟩
end Go.Proofs.Ytjedljdfkoagbaa
