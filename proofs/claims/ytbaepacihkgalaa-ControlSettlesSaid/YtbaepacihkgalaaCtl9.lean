/- Controllers: the offset of a unit that drifts stays within the bound. -/
import Derived.Test.YtbaepacihkgalaaCtl6
namespace Go.Proofs.Ytbaepacihkgalaa
open Go Go.Lite
set_option linter.unusedVariables false
set_option linter.unusedSimpArgs false
set_option maxRecDepth 100000
set_option maxHeartbeats 4000000

structure Bd (d m : Int) (a : Un) : Prop where
  x : -m ≤ a.x ∧ a.x ≤ m
  y : -m ≤ a.y ∧ a.y ≤ m
  dx : -d ≤ a.dx ∧ a.dx ≤ d
  dy : -d ≤ a.dy ∧ a.dy ≤ d
theorem Bd.of {d m : Int} {a b : Un} (h : Bd d m a) (e1 : b.x = a.x) (e2 : b.y = a.y) (e3 : b.dx = a.dx) (e4 : b.dy = a.dy) : Bd d m b := ⟨by rw [e1]; exact h.x, by rw [e2]; exact h.y, by rw [e3]; exact h.dx, by rw [e4]; exact h.dy⟩
/-- An event of drift within d. -/
structure DrE (d : Int) (v : Ev) : Prop where
  k : v.2.1 = 0
  u : v.2.2.1 = 0
  x : -d ≤ v.2.2.2.2.1 ∧ v.2.2.2.2.1 ≤ d
  y : -d ≤ v.2.2.2.2.2 ∧ v.2.2.2.2.2 ≤ d
theorem bd_key1 {Z : Nat} {p : Ps} {v : Ev} (h : v.2.1 = 1) (i : Nat) : ((evP Z p v).us i).x = (p.us i).x ∧ ((evP Z p v).us i).y = (p.us i).y ∧ ((evP Z p v).us i).dx = (p.us i).dx ∧ ((evP Z p v).us i).dy = (p.us i).dy := by
  unfold evP
  rw [if_neg (by omega), if_neg (by omega)]
  dsimp only
  unfold upU
  by_cases e : i = v.2.2.1.toNat
  · rw [if_pos e, e]
    unfold evU
    rw [if_neg (by omega), if_pos h]
    exact ⟨rfl, rfl, rfl, rfl⟩
  · rw [if_neg e]; exact ⟨rfl, rfl, rfl, rfl⟩
theorem bd_keys {Z : Nat} (i : Nat) : ∀ {l : List Ev} {p : Ps}, (∀ v ∈ l, v.2.1 = 1) → ((l.foldl (evP Z) p).us i).x = (p.us i).x ∧ ((l.foldl (evP Z) p).us i).y = (p.us i).y ∧ ((l.foldl (evP Z) p).us i).dx = (p.us i).dx ∧ ((l.foldl (evP Z) p).us i).dy = (p.us i).dy
  | [], p, _ => ⟨rfl, rfl, rfl, rfl⟩
  | v :: l, p, h => by
    rw [List.foldl_cons]
    obtain ⟨a1, a2, a3, a4⟩ := bd_keys i (Z := Z) (l := l) (p := evP Z p v) fun w hw => h w (List.mem_cons_of_mem _ hw)
    obtain ⟨b1, b2, b3, b4⟩ := bd_key1 (Z := Z) (p := p) (h v (List.mem_cons_self ..)) i
    exact ⟨a1.trans b1, a2.trans b2, a3.trans b3, a4.trans b4⟩
theorem bd_drift {Z : Nat} {d m : Int} : ∀ {l : List Ev} {p : Ps}, (∀ v ∈ l, DrE d v) → Bd d m (p.us 0) → Bd d m ((l.foldl (evP Z) p).us 0)
  | [], p, _, h => h
  | v :: l, p, hl, h => by
    rw [List.foldl_cons]
    refine bd_drift (fun w hw => hl w (List.mem_cons_of_mem _ hw)) ?_
    have hv := hl v (List.mem_cons_self ..)
    have hk := hv.k
    have hu := hv.u
    unfold evP
    rw [if_neg (by omega), if_neg (by omega)]
    dsimp only
    unfold upU
    rw [if_pos (by rw [hu]; rfl)]
    unfold evU
    rw [if_pos hk]
    have e : (p.us v.2.2.1.toNat) = p.us 0 := by rw [hu]; rfl
    rw [e]
    exact ⟨h.x, h.y, hv.x, hv.y⟩
theorem fzE_key {S : Su} {ks : Nat → List Int} {fm : List (List Int)} {n : Int} {i : Nat} : ∀ z, ∀ v ∈ fzE S ks fm n i z, v.2.1 = 1
  | 0, v, h => nomatch h
  | z + 1, v, h => by
    rw [fzE] at h
    split at h
    · exact fzE_key z v h
    · rcases List.mem_append.1 h with h | h
      · exact fzE_key z v h
      · rw [List.mem_singleton.1 h]
theorem bd_print {S : Su} {q : Ps} {d m : Int} (h : Bd d m (q.us 0)) (hd : 0 ≤ d) (hm : 0 ≤ m) : Bd d (min 1000 (m + d)) (dnU S q.us 0) := by
  have e : ∀ n (a : Un) (ld : List Int), (nkU a ld n).x = a.x ∧ (nkU a ld n).y = a.y ∧ (nkU a ld n).dx = a.dx ∧ (nkU a ld n).dy = a.dy := by
    intro n a ld
    induction n with
    | zero => exact ⟨rfl, rfl, rfl, rfl⟩
    | succ n ih => exact ih
  obtain ⟨e1, e2, e3, e4⟩ := e S.Z (mv1 q.us 0) (S.ld.getD 0 [])
  have hx := h.x
  have hy := h.y
  have hdx := h.dx
  have hdy := h.dy
  refine ⟨?_, ?_, ?_, ?_⟩
  · show -(min 1000 (m + d)) ≤ (nkU (mv1 q.us 0) (S.ld.getD 0 []) S.Z).x ∧ (nkU (mv1 q.us 0) (S.ld.getD 0 []) S.Z).x ≤ min 1000 (m + d)
    rw [e1]
    show -(min 1000 (m + d)) ≤ cutP _ ∧ cutP _ ≤ _
    unfold cutP
    omega
  · show -(min 1000 (m + d)) ≤ (nkU (mv1 q.us 0) (S.ld.getD 0 []) S.Z).y ∧ (nkU (mv1 q.us 0) (S.ld.getD 0 []) S.Z).y ≤ min 1000 (m + d)
    rw [e2]
    show -(min 1000 (m + d)) ≤ cutP _ ∧ cutP _ ≤ _
    unfold cutP
    omega
  · show -d ≤ (nkU (mv1 q.us 0) (S.ld.getD 0 []) S.Z).dx ∧ (nkU (mv1 q.us 0) (S.ld.getD 0 []) S.Z).dx ≤ d
    rw [e3]; exact hdx
  · show -d ≤ (nkU (mv1 q.us 0) (S.ld.getD 0 []) S.Z).dy ∧ (nkU (mv1 q.us 0) (S.ld.getD 0 []) S.Z).dy ≤ d
    rw [e4]; exact hdy
theorem Bd.up {d m n : Int} {a : Un} (h : Bd d m a) (hm : m ≤ n) : Bd d n a := by
  have hx := h.x
  have hy := h.y
  exact ⟨by omega, by omega, h.dx, h.dy⟩
/-- What holds ahead of sheet k + 1: the offset when the controller's own events are done. -/
structure BdI (d : Int) (cr : Nat) (S : Su) (k : Nat) (s : Lp) : Prop where
  b : Bd d (d * ((k % cr : Nat) : Int)) ((s.own.foldl (evP S.Z) s.p).us 0)
  r : ∀ v ∈ s.rest, DrE d v
  cr : s.c.cr = cr
  n : s.c.n = k
theorem bd_lpB {d : Int} {cr : Nat} {S : Su} {k : Nat} {s : Lp} (h : BdI d cr S k s) : Bd d (d * ((k % cr : Nat) : Int)) ((lpB S k s).us 0) := by
  unfold lpB
  rw [List.foldl_append]
  exact bd_drift (fun v hv => h.r v (tkE_ok.1 v hv).2) h.b
theorem bd_dn {d : Int} {cr : Nat} {S : Su} {k : Nat} {s : Lp} (hd : 0 ≤ d) (hc : 1 ≤ cr) (h : BdI d cr S k s) : Bd d (d * ((k % cr : Nat) : Int) + d) (dnU S (lpB S k s).us 0) ∧ Bd d (min 1000 (d * cr)) (dnU S (lpB S k s).us 0) := by
  have h0 : 0 ≤ d * ((k % cr : Nat) : Int) := Int.mul_nonneg hd (Int.natCast_nonneg _)
  have hp := bd_print (S := S) (bd_lpB h) hd h0
  have hlt := Nat.mod_lt k hc
  have h1 : d * ((k % cr : Nat) : Int) + d ≤ d * cr := by
    have : d * (((k % cr : Nat) : Int) + 1) ≤ d * cr := Int.mul_le_mul_of_nonneg_left (by omega) hd
    rw [Int.mul_add, Int.mul_one] at this
    exact this
  exact ⟨hp.up (by omega), hp.up (by omega)⟩
theorem bd_step {d : Int} {cr : Nat} {S : Su} {k : Nat} {s : Lp} (hd : 0 ≤ d) (hc : 1 ≤ cr) (h : BdI d cr S k s) : BdI d cr S (k + 1) (lpS S 1 k s) := by
  obtain ⟨h1, h2⟩ := bd_dn hd hc h
  refine ⟨?_, fun v hv => h.r v (tkE_ok.2 v hv), h.cr, ?_⟩
  · show Bd d _ (((feE S s.c (shK S (lpB S k s).us 1) (flL S (lpB S k s).us 1 0) 1).foldl (evP S.Z) (fedP S 1 (lpB S k s))).us 0)
    obtain ⟨q, eq⟩ : ∃ q, q = lpB S k s := ⟨_, rfl⟩
    rw [← eq] at h1 h2 ⊢
    have e0 : (fedP S 1 q).us 0 = dnU S q.us 0 := by
      show fe0 S q.us 1 0 = _
      unfold fe0
      rw [if_pos (by omega)]
    have esh : (shK S q.us 1).getD 0 (0, 0) = ((dnU S q.us 0).x, (dnU S q.us 0).y) := rfl
    rw [feE, feE, List.nil_append, List.foldl_append]
    obtain ⟨p, ep⟩ : ∃ p, p = (kyE S s.c (flL S q.us 1 0) 0).foldl (evP S.Z) (fedP S 1 q) := ⟨_, rfl⟩
    have hk := bd_keys (Z := S.Z) 0 (l := kyE S s.c (flL S q.us 1 0) 0) (p := fedP S 1 q) (fun v hv => by
      unfold kyE at hv
      split at hv
      · exact fzE_key _ v hv
      · exact nomatch hv)
    rw [← ep, e0] at hk
    rw [← ep]
    obtain ⟨k1, k2, k3, k4⟩ := hk
    have er : rem (s.c.n + 1) s.c.cr = (((k + 1) % cr : Nat) : Int) := by
      rw [h.n, h.cr]
      unfold rem
      rw [Int.tmod_eq_emod_of_nonneg (by omega)]
      rfl
    by_cases hz : (k + 1) % cr = 0
    · have er0 : rem (s.c.n + 1) s.c.cr = 0 := by rw [er, hz]; rfl
      rw [hz]
      by_cases hs : (dnU S q.us 0).x = 0 ∧ (dnU S q.us 0).y = 0
      · have ej : jmE S s.c (shK S q.us 1) 0 = [] := if_neg fun h' => h'.2 (by rw [esh]; exact hs)
        rw [ej]
        refine ⟨?_, ?_, ?_, ?_⟩
        · rw [List.foldl_nil, k1, hs.1]; simp
        · rw [List.foldl_nil, k2, hs.2]; simp
        · rw [List.foldl_nil, k3]; exact h1.dx
        · rw [List.foldl_nil, k4]; exact h1.dy
      · have ej : jmE S s.c (shK S q.us 1) 0 = [(s.c.n + 1 + 1, 4, ((0 : Nat) : Int), 0, -(dnU S q.us 0).x, -(dnU S q.us 0).y)] := if_pos ⟨er0, by rw [esh]; exact hs⟩
        rw [ej, List.foldl_cons, List.foldl_nil]
        have eu : (evP S.Z p (s.c.n + 1 + 1, 4, ((0 : Nat) : Int), 0, -(dnU S q.us 0).x, -(dnU S q.us 0).y)).us 0 = mvU (p.us 0) (-(dnU S q.us 0).x) (-(dnU S q.us 0).y) := rfl
        rw [eu]
        refine ⟨?_, ?_, ?_, ?_⟩
        · show _ ≤ cutP ((p.us 0).x + _) ∧ cutP ((p.us 0).x + _) ≤ _
          rw [k1, show (dnU S q.us 0).x + -(dnU S q.us 0).x = 0 by omega]
          have : cutP 0 = 0 := rfl
          rw [this]; simp
        · show _ ≤ cutP ((p.us 0).y + _) ∧ cutP ((p.us 0).y + _) ≤ _
          rw [k2, show (dnU S q.us 0).y + -(dnU S q.us 0).y = 0 by omega]
          have : cutP 0 = 0 := rfl
          rw [this]; simp
        · show -d ≤ (p.us 0).dx ∧ (p.us 0).dx ≤ d
          rw [k3]; exact h1.dx
        · show -d ≤ (p.us 0).dy ∧ (p.us 0).dy ≤ d
          rw [k4]; exact h1.dy
    · have ej : jmE S s.c (shK S q.us 1) 0 = [] := if_neg fun h' => by rw [er] at h'; omega
      rw [ej, List.foldl_nil]
      have em : (k + 1) % cr = k % cr + 1 := by
        have h3 := Nat.mod_lt k hc
        rw [Nat.add_mod]
        by_cases h4 : cr = 1
        · rw [h4, Nat.mod_one] at hz; exact absurd rfl hz
        · rw [Nat.mod_eq_of_lt (show 1 < cr by omega)]
          by_cases h5 : k % cr + 1 = cr
          · rw [Nat.add_mod, Nat.mod_eq_of_lt (show 1 < cr by omega), h5, Nat.mod_self] at hz
            exact absurd rfl hz
          · exact Nat.mod_eq_of_lt (by omega)
      rw [em]
      have e2 : d * (((k % cr + 1 : Nat)) : Int) = d * ((k % cr : Nat) : Int) + d := by rw [Int.natCast_add, Int.mul_add]; simp
      rw [e2]
      exact h1.of k1 k2 k3 k4
  · show s.c.n + 1 = _
    rw [h.n]; omega
theorem bd_lp {d : Int} {cr : Nat} {S : Su} {ci : Int} {l : List Ev} (hd : 0 ≤ d) (hc : 1 ≤ cr) (hl : ∀ v ∈ l, DrE d v) : ∀ k, BdI d cr S k (lp S 1 (newCt S ci cr) l k)
  | 0 => by
    refine ⟨?_, hl, rfl, rfl⟩
    show Bd d _ (newU S 0)
    rw [Nat.zero_mod]
    have e : ∀ z : Int, z = 0 → -(d * ((0 : Nat) : Int)) ≤ z ∧ z ≤ d * ((0 : Nat) : Int) := fun z hz => by rw [hz]; simp
    exact ⟨e _ rfl, e _ rfl, (by show -d ≤ (0 : Int) ∧ (0 : Int) ≤ d; omega), (by show -d ≤ (0 : Int) ∧ (0 : Int) ≤ d; omega)⟩
  | k + 1 => bd_step hd hc (bd_lp hd hc hl k)
/-- The shifts of each sheet. -/
theorem bd_rec {d : Int} {cr : Nat} {S : Su} {ci : Int} {l : List Ev} (hd : 0 ≤ d) (hc : 1 ≤ cr) (hl : ∀ v ∈ l, DrE d v) {n k : Nat} (hk : k < n) : ∃ x y : Int, ((lpL S 1 (newCt S ci cr) l n).getD k (0, 0, [], [], 0)).2.2.1 = [(x, y)] ∧ (-(min 1000 (d * cr)) ≤ x ∧ x ≤ min 1000 (d * cr)) ∧ (-(min 1000 (d * cr)) ≤ y ∧ y ≤ min 1000 (d * cr)) := by
  have h := (bd_dn hd hc (bd_lp (S := S) (ci := ci) hd hc hl k)).2
  rw [lpL_succ' hk]
  exact ⟨_, _, rfl, h.x, h.y⟩
end Go.Proofs.Ytbaepacihkgalaa
