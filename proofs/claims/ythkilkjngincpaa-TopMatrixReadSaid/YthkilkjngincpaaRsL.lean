/- Reed-Solomon: the lost places, in plain words; what repair makes of a word. -/
import Derived.Test.YthkilkjngincpaaRs7
namespace Go.Proofs.Ythkilkjngincpaa
open Go Go.Lite
set_option linter.unusedVariables false
set_option linter.unusedSimpArgs false
set_option maxRecDepth 100000
set_option maxHeartbeats 4000000

/-- The first k of the lost places. -/
def erK (pl : Nat → Nat) : Nat → Nat → Bool
  | 0, _ => false
  | k + 1, j => (j == pl k) || erK pl k j
theorem erK_mem {pl : Nat → Nat} : ∀ {k j : Nat}, erK pl k j = true ↔ ∃ i, i < k ∧ pl i = j
  | 0, j => by simp [erK]
  | k + 1, j => by
    simp only [erK, Bool.or_eq_true, beq_iff_eq]
    rw [erK_mem]
    constructor
    · rintro (rfl | ⟨i, hi, rfl⟩)
      · exact ⟨k, by omega, rfl⟩
      · exact ⟨i, by omega, rfl⟩
    · rintro ⟨i, hi, rfl⟩
      by_cases e : i = k
      · subst e; exact .inl rfl
      · exact .inr ⟨i, by omega, rfl⟩
theorem erK_new {pl : Nat → Nat} {k : Nat} (hd : ∀ i, i < k → pl i ≠ pl k) : erK pl k (pl k) = false := by
  cases h : erK pl k (pl k) with
  | false => rfl
  | true =>
    obtain ⟨i, hi, e⟩ := erK_mem.1 h
    exact absurd e (hd i hi)
theorem one_new (q : Nat → Bool) (a : Nat) (ha : q a = false) : ∀ N, ((List.range N).filter fun j => (j == a) && !q j).length = if a < N then 1 else 0
  | 0 => by simp
  | N + 1 => by
    rw [List.range_succ, List.filter_append, List.length_append, one_new q a ha N]
    by_cases e : N = a
    · subst e
      rw [if_neg (by omega), if_pos (by omega)]
      simp [ha]
    · have : (List.filter (fun j => (j == a) && !q j) [N]).length = 0 := by simp [e]
      rw [this]
      by_cases h : a < N
      · rw [if_pos h, if_pos (by omega)]
      · rw [if_neg h, if_neg (by omega)]
theorem losts_len {pl : Nat → Nat} {N : Nat} : ∀ {k : Nat}, (∀ i, i < k → pl i < N) → (∀ i j, i < k → j < k → pl i = pl j → i = j) → (losts N (erK pl k)).length = k
  | 0, _, _ => by unfold losts; rw [List.length_eq_zero_iff]; exact List.filter_eq_nil_iff.2 fun a _ => by simp [erK]
  | k + 1, hl, hd => by
    have ih := losts_len (pl := pl) (N := N) (k := k) (fun i hi => hl i (by omega)) (fun i j hi hj h => hd i j (by omega) (by omega) h)
    have hn : erK pl k (pl k) = false := erK_new fun i hi h => by have := hd i k (by omega) (by omega) h; omega
    have ho := filter_or (fun j => j == pl k) (erK pl k) (List.range N)
    rw [one_new _ _ hn, if_pos (hl k (by omega))] at ho
    unfold losts at ih ⊢
    have e : (List.range N).filter (erK pl (k + 1)) = (List.range N).filter fun j => (j == pl k) || erK pl k j := rfl
    rw [e, ho, ih]; omega
/-- The factor of a lost place. -/
def gF (N a i : Nat) : BitVec 8 := if i = 0 then 1#8 else if i = 1 then eX N a else 0#8
/-- The polynomial of the lost places. -/
def gK (N : Nat) (pl : Nat → Nat) : Nat → Nat → BitVec 8
  | 0 => fun i => if i = 0 then 1#8 else 0#8
  | k + 1 => prd (gK N pl k) (gF N (pl k)) (k + 1)
theorem gF_z {N a i : Nat} (h : 2 ≤ i) : gF N a i = 0#8 := by unfold gF; rw [if_neg (by omega), if_neg (by omega)]
theorem gK_0 (N : Nat) (pl : Nat → Nat) : ∀ k, gK N pl k 0 = 1#8
  | 0 => rfl
  | k + 1 => by
    simp only [gK]
    rw [prd_zero (by omega), gK_0 N pl k, mulF_oneL]; rfl
theorem gK_z (N : Nat) (pl : Nat → Nat) : ∀ k i, k < i → gK N pl k i = 0#8
  | 0, i, h => by simp only [gK]; rw [if_neg (by omega)]
  | k + 1, i, h => by
    simp only [gK]
    exact prd_end (lq := 2) (fun _ => gF_z) (by omega)
theorem gK_ev (N : Nat) (pl : Nat → Nat) (M : Nat) : ∀ k, k + 3 ≤ M → ∀ j, erK pl k j = true → ev (gK N pl k) M (eY N j) = 0#8
  | 0, _, j, h => by cases h
  | k + 1, hM, j, h => by
    simp only [gK]
    rw [prd_ev (lq := 2) (fun _ => gF_z) (by omega), ← ev_more (n := M) (m := k + 1) (by omega) (fun i hi => gK_z N pl k i (by omega))]
    simp only [erK, Bool.or_eq_true, beq_iff_eq] at h
    rcases h with rfl | h
    · have e : ev (gF N (pl k)) M (eY N (pl k)) = 0#8 := by
        rw [ev_more (m := 2) (by omega) fun _ => gF_z]
        have g0 : gF N (pl k) 0 = 1#8 := rfl
        have g1 : gF N (pl k) 1 = eX N (pl k) := rfl
        show (0#8 ^^^ mulF (gF N (pl k) 0) (pw (eY N (pl k)) 0)) ^^^ mulF (gF N (pl k) 1) (pw (eY N (pl k)) 1) = 0#8
        rw [g0, g1, pw_one, eXY, mulF_oneL, BitVec.zero_xor]
        exact BitVec.xor_self
      rw [e, mulF_zeroR]
    · rw [gK_ev N pl M k (by omega) j h, mulF_zeroL]
theorem lRun_lc {N M rho : Nat} {e G : Nat → BitVec 8} : ∀ k, (lRun N e M rho G k).lc ≤ (lRun N e M rho G k).L + 1 ∧ (lRun N e M rho G k).lb + (lRun N e M rho G k).gap + (lRun N e M rho G k).L ≤ rho + k + 2 + rho
  | 0 => by simp only [lRun]; omega
  | k + 1 => by
    have ih := lRun_lc (N := N) (M := M) (rho := rho) (e := e) (G := G) k
    have ge := lRun_ge (N := N) (M := M) (rho := rho) (e := e) (G := G) k
    simp only [lRun]
    generalize lRun N e M rho G k = s at *
    unfold lStep
    split
    · dsimp only; omega
    · split
      · dsimp only; omega
      · dsimp only; omega
/-- Few errors whose sums are all zero are none. -/
theorem no_errors {N t : Nat} {e : Nat → BitVec 8} {er : Nat → Bool} (hN : N ≤ 255) (hz : ∀ k, k < t → syn N e k = 0#8) (hl : (alls N e er).length ≤ t) : ∀ j, j < N → e j = 0#8 := by
  have hmem : ∀ j, j ∈ alls N e er → j < N := fun j hj => by
    unfold alls at hj
    rw [List.mem_filter, List.mem_range] at hj
    exact hj.1
  have hv := vand (eX N) (alls N e er) (List.Pairwise.filter _ List.nodup_range) (fun a ha b hb => eX_inj hN (hmem a ha) (hmem b hb)) e (fun k hk => by
    have h := hz k (by omega)
    unfold syn at h
    rw [← xl_range] at h
    unfold alls
    rw [xl_filter]
    · exact h
    · intro j hj hp
      have h1 : e j = 0#8 := by
        rw [Bool.or_eq_false_iff] at hp
        simpa using hp.1
      rw [h1, mulF_zeroL])
  intro j hj
  by_cases h : j ∈ alls N e er
  · exact hv j h
  · refine Decidable.byContradiction fun h2 => h ?_
    unfold alls
    rw [List.mem_filter, List.mem_range]
    exact ⟨hj, by simp [h2]⟩
end Go.Proofs.Ythkilkjngincpaa
