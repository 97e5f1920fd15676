/- Values of a grid lie within the bounds of its nodes; a profile's colours are colours. -/
import Derived.Test.YtogbkhopanaoiaaPrf2
namespace Go.Proofs.Ytogbkhopanaoiaa
open Go Go.Lite
set_option linter.unusedVariables false
set_option linter.unusedSimpArgs false
set_option maxRecDepth 100000
set_option maxHeartbeats 4000000
theorem gnode_cell {inn out s : Nat} {vals : List Int} (g : GOk inn out s vals) {xs : List Nat} (hl : xs.length = inn) (hx : ∀ i, i < inn → xs.getD i 0 ≤ 65280) {t : Nat} (ht : t < gstep s) : ndx s 0 (xs.map fun x => (x + t) / gstep s) < s ^ inn := by
  obtain ⟨st1, st2, st3⟩ := g.step
  have hs : 2 ≤ s := by have := g.s1; omega
  have hk : ∀ k ∈ xs.map (fun x => (x + t) / gstep s), k < s := fun k hk => by
    obtain ⟨x, hx2, rfl⟩ := List.mem_map.1 hk
    obtain ⟨i, hi, rfl⟩ := mem_getD (d := 0) hx2
    have := hx i (by omega)
    refine Nat.lt_of_le_of_lt (Nat.div_le_div_right (c := gstep s) (show xs.getD i 0 + t ≤ (s - 1) * gstep s + (gstep s - 1) by omega)) ?_
    rw [Nat.mul_comm, Nat.mul_add_div (by omega), Nat.div_eq_of_lt (show gstep s - 1 < gstep s by omega)]
    omega
  exact (at_in g (by rw [List.length_map]; exact hl) hk (o := 0) (by have := g.o1; omega)).2
theorem graw_in {inn out s : Nat} {vals : List Int} (g : GOk inn out s vals) {xs : List Nat} (hl : xs.length = inn) (hx : ∀ i, i < inn → xs.getD i 0 ≤ 65280) {o : Nat} {lo hi : Int} (hb : ∀ n, n < s ^ inn → lo ≤ vals.getD (n * out + o) 0 ∧ vals.getD (n * out + o) 0 ≤ hi) :
    lo * (gstep s : Int) ≤ graw vals out s (gstep s) o xs ∧ graw vals out s (gstep s) o xs ≤ hi * (gstep s : Int) := by
  have node : ∀ t, t < gstep s → lo ≤ gnode vals out s o (xs.map fun x => (x + t) / gstep s) ∧ gnode vals out s o (xs.map fun x => (x + t) / gstep s) ≤ hi := fun t ht => hb _ (gnode_cell g hl hx ht)
  unfold graw
  constructor
  · have := sumN_le (f := fun _ => lo) (n := gstep s) fun t ht => (node t ht).1
    rwa [sumN_const (c := lo) fun _ _ => rfl, Int.mul_comm] at this
  · have := sumN_le (g := fun _ => hi) (n := gstep s) fun t ht => (node t ht).2
    rwa [sumN_const (c := hi) fun _ _ => rfl, Int.mul_comm] at this
theorem gat_in {inn out s : Nat} {vals : List Int} (g : GOk inn out s vals) {xs : List Nat} (hl : xs.length = inn) (hx : ∀ i, i < inn → xs.getD i 0 ≤ 65280) {o : Nat} {lo hi : Int} (hb : ∀ n, n < s ^ inn → lo ≤ vals.getD (n * out + o) 0 ∧ vals.getD (n * out + o) 0 ≤ hi) :
    lo ≤ gat vals out s o xs ∧ gat vals out s o xs ≤ hi := by
  obtain ⟨st1, st2, st3⟩ := g.step
  have h := graw_in g hl hx hb
  unfold gat
  have hp : (0 : Int) < (gstep s : Int) := by omega
  have h1 := near_mono hp h.1
  have h2 := near_mono hp h.2
  rw [near_full hp] at h1 h2
  exact ⟨h1, h2⟩
theorem pcol_ok {p : Prf} {inn s : Nat} {ys : List Nat} (h : PrfOk p inn s) (hy : ys.length = inn ∧ ∀ i, i < inn → ys.getD i 0 ≤ 255) : labOk (pcol p inn s ys 0) (pcol p inn s ys 1) (pcol p inn s ys 2) := by
  have fo := fnL_ok h.cv hy
  have l := h.lab
  have b0 := gat_in h.g fo.1 fo.2 (o := 0) (lo := 0) (hi := 10000) fun n hn => by
    have := l n hn
    unfold labOk at this
    rw [Nat.mul_comm 3 n] at this
    exact ⟨this.1, this.2.1⟩
  have b1 := gat_in h.g fo.1 fo.2 (o := 1) (lo := -12800) (hi := 12800) fun n hn => by
    have := l n hn
    unfold labOk at this
    rw [Nat.mul_comm 3 n] at this
    exact ⟨this.2.2.1, this.2.2.2.1⟩
  have b2 := gat_in h.g fo.1 fo.2 (o := 2) (lo := -12800) (hi := 12800) fun n hn => by
    have := l n hn
    unfold labOk at this
    rw [Nat.mul_comm 3 n] at this
    exact ⟨this.2.2.2.2.1, this.2.2.2.2.2⟩
  exact ⟨b0.1, b0.2, b1.1, b1.2, b2.1, b2.2⟩
end Go.Proofs.Ytogbkhopanaoiaa
