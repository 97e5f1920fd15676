/- Merged: GridB Grid4 Hull Fst Names Curve1. -/
import Derived.Test.YtkapjajlkpepmaaGrid3
import Derived.Test.YtkapjajlkpepmaaGo
import Derived.Test.YtkapjajlkpepmaaXDevicelinkSelf0
namespace Go.Proofs.Ytkapjajlkpepmaa
open Go Go.Lite
set_option linter.unusedVariables false
set_option linter.unusedSimpArgs false
set_option maxRecDepth 100000
set_option maxHeartbeats 4000000

/-- The number of nodes of the last m axes of a box. -/
def bw (n : Nat) (fr to : Nat → Nat) : Nat → Nat
  | 0 => 1
  | m + 1 => (to (n - 1 - m) - fr (n - 1 - m) + 1) * bw n fr to m
/-- The rank of a node by its last m axes. -/
def br (n : Nat) (fr to ix : Nat → Nat) : Nat → Nat
  | 0 => 0
  | m + 1 => (ix (n - 1 - m) - fr (n - 1 - m)) * bw n fr to m + br n fr to ix m
def inB (n : Nat) (fr to ix : Nat → Nat) : Prop := ∀ k, k < n → fr k ≤ ix k ∧ ix k ≤ to k
theorem br_lt {n : Nat} {fr to ix : Nat → Nat} (h : inB n fr to ix) : ∀ {m : Nat}, m ≤ n → br n fr to ix m < bw n fr to m
  | 0, _ => Nat.one_pos
  | m + 1, hm => by
    have h1 := br_lt h (m := m) (by omega)
    have h2 := h (n - 1 - m) (by omega)
    simp only [br, bw]
    have h3 : (ix (n - 1 - m) - fr (n - 1 - m) + 1) * bw n fr to m ≤ (to (n - 1 - m) - fr (n - 1 - m) + 1) * bw n fr to m := Nat.mul_le_mul_right _ (by omega)
    rw [Nat.add_mul, Nat.one_mul] at h3
    omega
theorem br_inj {n : Nat} {fr to ix iy : Nat → Nat} (hx : inB n fr to ix) (hy : inB n fr to iy) : ∀ {m : Nat}, m ≤ n → br n fr to ix m = br n fr to iy m → ∀ k, n - m ≤ k → k < n → ix k = iy k
  | 0, _, _ => fun k h1 h2 => by omega
  | m + 1, hm, he => by
    have a1 := br_lt hx (m := m) (by omega)
    have a2 := br_lt hy (m := m) (by omega)
    have b1 := hx (n - 1 - m) (by omega)
    have b2 := hy (n - 1 - m) (by omega)
    simp only [br] at he
    have c0 : ∀ a b u v w : Nat, u < w → v < w → a * w + u = b * w + v → a = b := fun a b u v w h1 h2 h3 => by
      rcases Nat.lt_trichotomy a b with h | h | h
      · have : (a + 1) * w ≤ b * w := Nat.mul_le_mul_right _ h
        rw [Nat.add_mul] at this; omega
      · exact h
      · have : (b + 1) * w ≤ a * w := Nat.mul_le_mul_right _ h
        rw [Nat.add_mul] at this; omega
    have c1 := c0 _ _ _ _ _ a1 a2 he
    rw [c1] at he
    have ih := br_inj hx hy (m := m) (by omega) (by omega)
    intro k h1 h2
    by_cases e : k = n - 1 - m
    · subst e; omega
    · exact ih k (by omega) h2
theorem br_top {n : Nat} {fr to ix : Nat → Nat} (h : inB n fr to ix) : ∀ {m : Nat}, m ≤ n → (∀ k, n - m ≤ k → k < n → ix k = to k) → br n fr to ix m + 1 = bw n fr to m
  | 0, _, _ => rfl
  | m + 1, hm, ht => by
    have h1 := br_top h (m := m) (by omega) fun k h1 h2 => ht k (by omega) h2
    have h2 := ht (n - 1 - m) (by omega) (by omega)
    simp only [br, bw, h2]
    rw [Nat.add_mul, Nat.one_mul]
    omega
theorem br_bot {n : Nat} {fr to ix : Nat → Nat} : ∀ {m : Nat}, (∀ k, n - m ≤ k → k < n → ix k = fr k) → m ≤ n → br n fr to ix m = 0
  | 0, _, _ => rfl
  | m + 1, h, hm => by
    have h1 := br_bot (to := to) (m := m) (fun k h1 h2 => h k (by omega) h2) (by omega)
    have h2 := h (n - 1 - m) (by omega) (by omega)
    simp only [br, h1, h2]
    simp
theorem br_same {n : Nat} {fr to ix iy : Nat → Nat} {k0 : Nat} (hk : k0 < n) (hs : ∀ k, k < k0 → ix k = iy k) (h0 : br n fr to iy (n - k0) = br n fr to ix (n - k0) + 1) : ∀ {m : Nat}, n - k0 ≤ m → m ≤ n → br n fr to iy m = br n fr to ix m + 1 := by
  intro m h1 h2
  obtain ⟨d, rfl⟩ := Nat.exists_eq_add_of_le h1
  induction d with
  | zero => exact h0
  | succ d ih =>
    have := ih (by omega) (by omega)
    rw [← Nat.add_assoc]
    simp only [br]
    rw [this, hs (n - 1 - (n - k0 + d)) (by omega)]
    omega
/-- The next node. -/
theorem br_next {n : Nat} {fr to ix iy : Nat → Nat} {k0 : Nat} (hk : k0 < n) (hb : inB n fr to ix) (hs : ∀ k, k < k0 → iy k = ix k) (h0 : iy k0 = ix k0 + 1) (h1 : ix k0 < to k0) (h2 : ∀ k, k0 < k → k < n → ix k = to k ∧ iy k = fr k) :
    br n fr to iy n = br n fr to ix n + 1 ∧ inB n fr to iy := by
  constructor
  · refine br_same hk (fun k h => (hs k h).symm) ?_ (by omega) (Nat.le_refl _)
    have e : n - k0 = (n - 1 - k0) + 1 := by omega
    have t1 := br_top hb (m := n - 1 - k0) (by omega) fun k a b => (h2 k (by omega) b).1
    have t2 := br_bot (n := n) (fr := fr) (to := to) (ix := iy) (m := n - 1 - k0) (fun k a b => (h2 k (by omega) b).2) (by omega)
    rw [e]
    simp only [br]
    rw [t2, show n - 1 - (n - 1 - k0) = k0 by omega, h0]
    have := hb k0 hk
    rw [show ix k0 + 1 - fr k0 = (ix k0 - fr k0) + 1 by omega, Nat.add_mul, Nat.one_mul]
    omega
  · intro k hkn
    rcases Nat.lt_trichotomy k k0 with h | h | h
    · rw [hs k h]; exact hb k hkn
    · subst h; rw [h0]; have := hb k hkn; omega
    · have := h2 k h hkn; have := hb k hkn; omega
end Go.Proofs.Ytkapjajlkpepmaa
namespace Go.Proofs.Ytkapjajlkpepmaa
open Go Go.Lite
set_option linter.unusedVariables false
set_option linter.unusedSimpArgs false
set_option maxRecDepth 100000
set_option maxHeartbeats 4000000
-- @simp rdi

/-- Least and greatest values for the nodes of the box between two inputs. -/
structure HullOk (vals : List Int) (inn out s : Nat) (lo hi : List Nat) (L M : List Int) : Prop where
  l1 : L.length = out
  m1 : M.length = out
  bd : ∀ o, o < out → ∀ x : Nat → Nat, (∀ k, k < inn → lo.getD k 0 / gstep s ≤ x k ∧ x k ≤ (hi.getD k 0 + gstep s - 1) / gstep s) → L.getD o 0 ≤ gnode vals out s o (tab inn x) ∧ gnode vals out s o (tab inn x) ≤ M.getD o 0
  la : ∀ o, o < out → ∃ x : Nat → Nat, (∀ k, k < inn → lo.getD k 0 / gstep s ≤ x k ∧ x k ≤ (hi.getD k 0 + gstep s - 1) / gstep s) ∧ L.getD o 0 = gnode vals out s o (tab inn x)
  ma : ∀ o, o < out → ∃ x : Nat → Nat, (∀ k, k < inn → lo.getD k 0 / gstep s ≤ x k ∧ x k ≤ (hi.getD k 0 + gstep s - 1) / gstep s) ∧ M.getD o 0 = gnode vals out s o (tab inn x)
/-- What is known while node n is looked at: the values before o have been. -/
def hinv (vals : List Int) (out s inn : Nat) (fr to : Nat → Nat) (n o : Nat) (L M : List Int) : Prop :=
  L.length = out ∧ M.length = out ∧ ∀ o', o' < out → ∀ x, inB inn fr to x → br inn fr to x inn < (if o' < o then n + 1 else n) → L.getD o' 0 ≤ gnode vals out s o' (tab inn x) ∧ gnode vals out s o' (tab inn x) ≤ M.getD o' 0
/-- Both values are those of nodes. -/
def hatt (vals : List Int) (out s inn : Nat) (fr to : Nat → Nat) (o : Nat) (L M : List Int) : Prop := (∃ x, inB inn fr to x ∧ L.getD o 0 = gnode vals out s o (tab inn x)) ∧ ∃ x, inB inn fr to x ∧ M.getD o 0 = gnode vals out s o (tab inn x)
def hat (vals : List Int) (out s inn : Nat) (fr to : Nat → Nat) (n o : Nat) (L M : List Int) : Prop := ∀ o', o' < out → 0 < (if o' < o then n + 1 else n) → hatt vals out s inn fr to o' L M
theorem hat_step {vals : List Int} {out s inn : Nat} {fr to ix : Nat → Nat} {n o : Nat} {L M L2 M2 : List Int} (hx : inB inn fr to ix) (ho : o < out) (h : hat vals out s inn fr to n o L M)
    (h1 : ∀ o', o' ≠ o → L2.getD o' 0 = L.getD o' 0) (h2 : ∀ o', o' ≠ o → M2.getD o' 0 = M.getD o' 0)
    (h3 : L2.getD o 0 = gnode vals out s o (tab inn ix) ∨ (n ≠ 0 ∧ L2.getD o 0 = L.getD o 0)) (h4 : M2.getD o 0 = gnode vals out s o (tab inn ix) ∨ (n ≠ 0 ∧ M2.getD o 0 = M.getD o 0)) : hat vals out s inn fr to n (o + 1) L2 M2 := by
  intro o' ho' hr
  by_cases e : o' = o
  · subst e
    constructor
    · rcases h3 with h3 | ⟨h3, h5⟩
      · exact ⟨ix, hx, h3⟩
      · obtain ⟨x, y, z⟩ := (h o' ho (by rw [if_neg (by omega)]; omega)).1
        exact ⟨x, y, by rw [h5, z]⟩
    · rcases h4 with h3 | ⟨h3, h5⟩
      · exact ⟨ix, hx, h3⟩
      · obtain ⟨x, y, z⟩ := (h o' ho (by rw [if_neg (by omega)]; omega)).2
        exact ⟨x, y, by rw [h5, z]⟩
  · have := h o' ho' (by
      by_cases e2 : o' < o
      · rw [if_pos e2]; omega
      · rw [if_neg e2]; rw [if_neg (by omega)] at hr; exact hr)
    unfold hatt at this ⊢
    rw [h1 o' e, h2 o' e]
    exact this
theorem hinv_step {vals : List Int} {out s inn : Nat} {fr to ix : Nat → Nat} {n o : Nat} {L M L2 M2 : List Int} (hx : inB inn fr to ix) (hn : br inn fr to ix inn = n) (ho : o < out) (h : hinv vals out s inn fr to n o L M)
    (hl : L2.length = out) (hm : M2.length = out) (h1 : ∀ o', o' ≠ o → L2.getD o' 0 = L.getD o' 0) (h2 : ∀ o', o' ≠ o → M2.getD o' 0 = M.getD o' 0)
    (h3 : L2.getD o 0 ≤ gnode vals out s o (tab inn ix) ∧ (n = 0 ∨ L2.getD o 0 ≤ L.getD o 0)) (h4 : gnode vals out s o (tab inn ix) ≤ M2.getD o 0 ∧ (n = 0 ∨ M.getD o 0 ≤ M2.getD o 0)) : hinv vals out s inn fr to n (o + 1) L2 M2 := by
  refine ⟨hl, hm, fun o' ho' x hxb hr => ?_⟩
  by_cases e : o' = o
  · subst e
    rw [if_pos (by omega)] at hr
    by_cases e2 : br inn fr to x inn = n
    · have : tab inn x = tab inn ix := tab_congr fun k hk => br_inj hxb hx (Nat.le_refl _) (by omega) k (by omega) hk
      rw [this]
      exact ⟨h3.1, h4.1⟩
    · have := h.2.2 o' ho x hxb (by rw [if_neg (by omega)]; omega)
      omega
  · rw [h1 o' e, h2 o' e]
    refine h.2.2 o' ho' x hxb ?_
    by_cases e2 : o' < o
    · rw [if_pos e2]; rw [if_pos (by omega)] at hr; exact hr
    · rw [if_neg e2]; rw [if_neg (by omega)] at hr; exact hr
theorem hull_r (inn out s : Nat) (vals : List Int) (lo hi : List Nat) (g : GOk inn out s vals) (hl : lo.length = inn) (hh : hi.length = inn) (hb : ∀ i, i < inn → lo.getD i 0 ≤ hi.getD i 0 ∧ hi.getD i 0 ≤ 65280) :
    TC R Try.prog grid_Hull_f [.pel [.int .i64 inn, .int .i64 out, .int .i64 s, .lst Ei vals], .lst Ei (nz lo), .lst Ei (nz hi)] []
    (fun v X => ∃ L M : List Int, HullOk vals inn out s lo hi L M ∧ v = .tup [.sla 1 0 0 out, .sla 1 1 0 out] ∧ X = [some (.arr Ei L), some (.arr Ei M)]) := by
  have gi := g.i1
  have go := g.o1
  have gs : 2 ≤ s ∧ s ≤ 9 := by have := g.s1; omega
  obtain ⟨st1, st2, st3⟩ := g.step
  have q1 : quo 65280 ((s : Int) - 1) = ((gstep s : Nat) : Int) := by
    rw [quo_nn (by omega)]
    unfold gstep
    rw [show ((s : Int) - 1) = ((s - 1 : Nat) : Int) by omega]
    simp
  have ll := nz_len (l := lo)
  have lh := nz_len (l := hi)
  have l4 : ∀ f : Nat → Int, (t4 f).length = 4 := fun _ => t4_len
  have hok : ∀ L M, HullOk vals inn out s lo hi L M ↔ L.length = out ∧ M.length = out ∧ (∀ o, o < out → ∀ x : Nat → Nat, inB inn (fun k => lo.getD k 0 / gstep s) (fun k => (hi.getD k 0 + gstep s - 1) / gstep s) x → L.getD o 0 ≤ gnode vals out s o (tab inn x) ∧ gnode vals out s o (tab inn x) ≤ M.getD o 0) ∧ ∀ o, o < out → hatt vals out s inn (fun k => lo.getD k 0 / gstep s) (fun k => (hi.getD k 0 + gstep s - 1) / gstep s) o L M :=
    fun L M => ⟨fun h => ⟨h.l1, h.m1, h.bd, fun o ho => ⟨h.la o ho, h.ma o ho⟩⟩, fun h => ⟨h.1, h.2.1, h.2.2.1, fun o ho => (h.2.2.2 o ho).1, fun o ho => (h.2.2.2 o ho).2⟩⟩
  simp only [hok]
  generalize hst : gstep s = st at *
  have frto : ∀ k, k < inn → lo.getD k 0 / st ≤ (hi.getD k 0 + st - 1) / st ∧ (hi.getD k 0 + st - 1) / st ≤ s - 1 := fun k hk => by
    have := hb k hk
    refine ⟨Nat.div_le_div_right (by omega), ?_⟩
    have h2 : (hi.getD k 0 + st - 1) / st ≤ ((s - 1) * st + (st - 1)) / st := Nat.div_le_div_right (by omega)
    rw [Nat.mul_comm (s - 1) st, Nat.mul_add_div (by omega), Nat.div_eq_of_lt (show st - 1 < st by omega)] at h2
    omega
  have gl : ∀ k, (nz lo).getD k 0 = ((lo.getD k 0 : Nat) : Int) := fun k => nz_get
  have gh : ∀ k, (nz hi).getD k 0 = ((hi.getD k 0 : Nat) : Int) := fun k => nz_get
  refine tc env grid_Hull_s (by rfl) ?_
  dsimp only [grid_Hull_c]
  repeat' (first
    | refine GZy_i (And.intro q1 ll) ?_ ?_ ?_ ?_ ?_ ?_ ?_ ?_
    | with_reducible first | exact BzZq.mk | refine Tw.ret ?_ | refine ImZq.i fun h => ?_ | refine IkZq.i fun hk => ?_)
  rw [q1, ll, hl]
  refine Tw.weaken (TWk.re (H' := [some (.arr Ei (t4 fun _ => 0)), some (.arr Ei (t4 fun _ => 0)), some (.arr Ei (t4 fun _ => 0))]) (by rfl)) ?_
  refine Tw.loopK [0, 1, 2, 8, 9, 10, 11, 27] (fun k : Nat => k ≤ inn) (fun k => inn - k) (fun k => [(28, .int .i64 k)])
    (fun q => [some (.arr Ei (t4 fun i => if i < q then ((lo.getD i 0 / st : Nat) : Int) else 0)), some (.arr Ei (t4 fun i => if i < q then (((hi.getD i 0 + st - 1) / st : Nat) : Int) else 0)), some (.arr Ei (t4 fun i => 0))])
    ⟨0, by omega, TWk.fcanon env [some 0, some 1, some 2] (by rfl) ?_⟩ (fun k hk => ?_)
  · repeat' (first
      | with_reducible first | exact Conj.nil | refine Conj.cons rfl ?_ | refine Conj.same ?_ | refine Conj.ask ?_ ?_
      | ((with_reducible refine Due.mk ?_); (first | with_reducible rfl | omega | assumption | decide | ((try simp only [goS] at *) <;> (try intro h) <;> (try intro h') <;> (try simp only [goS] at *) <;> (try simp only [rdi, Int.toNat_natCast, Nat.add_zero] at *) <;> (try simp only [rng]) <;> (first | assumption | omega)) | (exact due_app0 (by omega)) | (exact due_app (by omega)) | (intros; simp; done) | (intros; simp; omega)))
      | with_reducible refine Due.mk ?_
      | omega)
  rcases Nat.lt_or_ge k inn with hk | hk
  · have e1 := gl k
    have e2 := gh k
    have e3 := hb k hk
    have e4 := frto k hk
    have e5 : quo ((lo.getD k 0 : Nat) : Int) (st : Int) = ((lo.getD k 0 / st : Nat) : Int) := by rw [quo_nn (by omega)]; simp
    have e6 : quo (((hi.getD k 0 : Nat) : Int) + (st : Int) - 1) (st : Int) = (((hi.getD k 0 + st - 1) / st : Nat) : Int) := by
      rw [quo_nn (by omega), show ((hi.getD k 0 : Nat) : Int) + (st : Int) - 1 = ((hi.getD k 0 + st - 1 : Nat) : Int) by omega]; simp
    have q5 : rng .i64 (quo ((lo.getD k 0 : Nat) : Int) (st : Int)) := by
      rw [e5]; simp only [rng]
      generalize lo.getD k 0 / st = z at *
      generalize (hi.getD k 0 + st - 1) / st = z2 at *
      omega
    have q6 : rng .i64 (quo (((hi.getD k 0 : Nat) : Int) + (st : Int) - 1) (st : Int)) := by
      rw [e6]; simp only [rng]
      generalize (hi.getD k 0 + st - 1) / st = z2 at *
      omega
    repeat' (first
      | exact q5
      | exact q6
      | refine GZy_i (And.intro ll (And.intro lh (And.intro e1 (And.intro e2 l4)))) ?_ ?_ ?_ ?_ ?_ ?_ ?_ ?_
      | with_reducible first | exact BzZq.mk | refine Tw.ret ?_ | refine ImZq.i fun h => ?_ | refine IkZq.i fun hk => ?_)
    refine ⟨k + 1, by omega, by omega, TWk.fcanon env [some 0, some 1, some 2] (by rfl) ?_⟩
    have upd : ∀ f : Nat → Int, (t4 fun i => if i < k then f i else 0).set k (f k) = t4 fun i => if i < k + 1 then f i else 0 := fun f => by
      rw [t4_set]
      exact t4_congr fun i _ => by
        by_cases e : i = k
        · subst e; rw [if_pos rfl, if_pos (by omega)]
        · rw [if_neg e]
          by_cases h : i < k
          · rw [if_pos h, if_pos (by omega)]
          · rw [if_neg h, if_neg (by omega)]
    have r0 : (t4 fun j => if j < k then ((lo.getD j 0 / st : Nat) : Int) else 0).set (k : Int).toNat (quo ((nz lo).getD (k : Int).toNat 0) st) = t4 fun i => if i < k + 1 then ((lo.getD i 0 / st : Nat) : Int) else 0 := by
      rw [Int.toNat_natCast, e1, e5]; exact upd fun i => ((lo.getD i 0 / st : Nat) : Int)
    have r1 : (t4 fun j => if j < k then (((hi.getD j 0 + st - 1) / st : Nat) : Int) else 0).set (k : Int).toNat (quo ((nz hi).getD (k : Int).toNat 0 + st - 1) st) = t4 fun i => if i < k + 1 then (((hi.getD i 0 + st - 1) / st : Nat) : Int) else 0 := by
      rw [Int.toNat_natCast, e2, e6]; exact upd fun i => (((hi.getD i 0 + st - 1) / st : Nat) : Int)
    repeat' (first
      | exact r0.symm
      | exact r1.symm
      | refine GZ_i ?_ ?_ ?_ ?_ ?_ ?_ ?_ ?_
      | with_reducible first | exact BzZq.mk | refine Tw.ret ?_ | refine ImZq.i fun h => ?_ | refine IkZq.i fun hk => ?_)
  · obtain rfl : inn = k := by omega
    generalize hF : (fun k => lo.getD k 0 / st) = fr at *
    generalize hT : (fun k => (hi.getD k 0 + st - 1) / st) = to at *
    have fv : ∀ i, lo.getD i 0 / st = fr i := fun i => by rw [← hF]
    have tv : ∀ i, (hi.getD i 0 + st - 1) / st = to i := fun i => by rw [← hT]
    simp only [fv, tv] at frto ⊢
    refine Tw.weaken (TWk.re (H' := [some (.cells [.int .i64 (if 0 < inn then ((fr 0 : Nat) : Int) else 0), .int .i64 (if 1 < inn then ((fr 1 : Nat) : Int) else 0), .int .i64 (if 2 < inn then ((fr 2 : Nat) : Int) else 0), .int .i64 (if 3 < inn then ((fr 3 : Nat) : Int) else 0)]), some (.arr Ei (t4 fun i => if i < inn then ((to i : Nat) : Int) else 0)), some (.cells [.int .i64 0, .int .i64 0, .int .i64 0, .int .i64 0])]) (by rfl)) ?_
    repeat' (first
      | refine GZp_i ?_ ?_ ?_ ?_ ?_ ?_ ?_ ?_
      | with_reducible first | exact BzZq.mk | refine Tw.ret ?_ | refine ImZq.i fun h => ?_ | refine IkZq.i fun hk => ?_)
    refine Tw.weaken (TWk.re (H' := [some (.arr Ei (t4 fun i => if i < inn then ((fr i : Nat) : Int) else 0)), some (.arr Ei (t4 fun i => if i < inn then ((to i : Nat) : Int) else 0)), some (.arr Ei (t4 fun i => if i < inn then ((fr i : Nat) : Int) else 0)), some (.arr Ei (List.replicate out (0 : Int))), some (.arr Ei (List.replicate out (0 : Int)))]) (by rfl)) ?_
    rw [Int.toNat_natCast]
    have frb : inB inn fr to fr := fun k hk => ⟨Nat.le_refl _, (frto k hk).1⟩
    have f0 : br inn fr to fr inn = 0 := br_bot (fun _ _ _ => rfl) (Nat.le_refl _)
    have vb := fun o l => gnode_bd g o l
    refine Tw.loopK [0, 9, 10, 11, 13, 14] (fun q : (Nat → Nat) × List Int × List Int => inB inn fr to q.1 ∧ q.2.1.length = out ∧ q.2.2.length = out ∧
        (∀ o, o < out → ∀ x, inB inn fr to x → br inn fr to x inn < br inn fr to q.1 inn → q.2.1.getD o 0 ≤ gnode vals out s o (tab inn x) ∧ gnode vals out s o (tab inn x) ≤ q.2.2.getD o 0) ∧
        ∀ o, o < out → 0 < br inn fr to q.1 inn → hatt vals out s inn fr to o q.2.1 q.2.2) (fun q => bw inn fr to inn - br inn fr to q.1 inn) (fun q => [(15, .bool (decide (br inn fr to q.1 inn = 0)))])
      (fun q => [some (.arr Ei (t4 fun i => if i < inn then ((fr i : Nat) : Int) else 0)), some (.arr Ei (t4 fun i => if i < inn then ((to i : Nat) : Int) else 0)), some (.arr Ei (t4 fun i => if i < inn then ((q.1 i : Nat) : Int) else 0)), some (.arr Ei q.2.1), some (.arr Ei q.2.2)])
      ⟨(fr, List.replicate out 0, List.replicate out 0), ⟨frb, by simp, by simp, fun o ho x hx h => by (dsimp only at h; omega), fun o ho h => by (dsimp only at h; omega)⟩, TWk.fcanon env [some 0, some 1, some 2, some 3, some 4] (by rfl) ?_⟩ (fun q hq => ?_)
    · repeat' (first
        | with_reducible first | exact Conj.nil | refine Conj.cons rfl ?_ | refine Conj.same ?_ | refine Conj.ask ?_ ?_
        | ((with_reducible refine Due.mk ?_); (first | with_reducible rfl | omega | assumption | decide | ((try simp only [goS] at *) <;> (try intro h) <;> (try intro h') <;> (try simp only [goS] at *) <;> (try simp only [rdi, Int.toNat_natCast, Nat.add_zero] at *) <;> (try simp only [rng]) <;> (first | assumption | omega)) | (exact due_app0 (by omega)) | (exact due_app (by omega)) | (intros; simp; done) | (intros; simp; omega)))
        | with_reducible refine Due.mk ?_
        | omega)
    obtain ⟨ix, L, M⟩ := q
    dsimp only at hq ⊢
    obtain ⟨hix, hL, hM, hbd, hat0⟩ := hq
    have xs1 : ∀ k ∈ tab inn ix, k < s := fun k hk => by
      obtain ⟨i, hi, rfl⟩ := mem_getD (d := 0) hk
      rw [tab_len] at hi
      rw [tab_get hi]
      have := hix i hi
      have := frto i hi
      omega
    have hcut : nz (tab inn ix) = (t4 fun i => if i < inn then ((ix i : Nat) : Int) else 0).take inn := by
      unfold t4
      rw [tab_take (by omega)]
      simp only [nz, tab, List.map_map]
      exact List.map_congr_left fun i hi => by simp only [List.mem_range] at hi; simp [hi]
    have ac := gat_c inn out s vals (tab inn ix) (by unfold Due; omega) (by unfold Due; omega) (by unfold Due; rw [tab_len]; omega) (by unfold Due; intro k hk; have := xs1 k hk; omega)
    rw [hcut] at ac
    have inb := fun o ho => (at_in g tab_len xs1 (o := o) ho).1
    have gnd : ∀ o, gnode vals out s o (tab inn ix) = vals.getD (ndx s 0 (tab inn ix) * out + o) 0 := fun _ => rfl
    have vlen : vals.length ≤ 32768 := by rw [g.len]; exact g.big
    generalize ndx s 0 (tab inn ix) * out = nd at *
    generalize hn : br inn fr to ix inn = n at *
    repeat' (first
      | ((with_reducible refine TOps.any ?_); refine TOps.callE env (by rfl) (by rfl) (by rfl) ?_ (ac) (by rfl) ?_)
      | refine GZy_i l4 ?_ ?_ ?_ ?_ ?_ ?_ ?_ ?_
      | with_reducible first | exact BzZq.mk | refine Tw.ret ?_ | refine ImZq.i fun h => ?_ | refine IkZq.i fun hk => ?_)
    have h0 : hinv vals out s inn fr to n 0 L M := ⟨hL, hM, fun o ho x hx h => hbd o ho x hx (by rw [if_neg (by omega)] at h; exact h)⟩
    have h0a : hat vals out s inn fr to n 0 L M := fun o ho h => hat0 o ho (by rw [if_neg (by omega)] at h; exact h)
    refine Tw.loopK [0, 9, 10, 11, 13, 14, 15, 16, 72] (fun q : Nat × List Int × List Int => q.1 ≤ out ∧ hinv vals out s inn fr to n q.1 q.2.1 q.2.2 ∧ hat vals out s inn fr to n q.1 q.2.1 q.2.2) (fun q => out - q.1) (fun q => [(73, .int .i64 q.1)])
      (fun q => [some (.arr Ei (t4 fun i => if i < inn then ((fr i : Nat) : Int) else 0)), some (.arr Ei (t4 fun i => if i < inn then ((to i : Nat) : Int) else 0)), some (.arr Ei (t4 fun i => if i < inn then ((ix i : Nat) : Int) else 0)), some (.arr Ei q.2.1), some (.arr Ei q.2.2)])
      ⟨(0, L, M), ⟨by dsimp only; omega, h0, h0a⟩, TWk.fcanon env [some 0, some 1, some 2, some 3, some 4] (by rfl) ?_⟩ (fun q hq => ?_)
    · repeat' (first
        | with_reducible first | exact Conj.nil | refine Conj.cons rfl ?_ | refine Conj.same ?_ | refine Conj.ask ?_ ?_
        | ((with_reducible refine Due.mk ?_); (first | with_reducible rfl | omega | assumption | decide | ((try simp only [goS] at *) <;> (try intro h) <;> (try intro h') <;> (try simp only [goS] at *) <;> (try simp only [rdi, Int.toNat_natCast, Nat.add_zero] at *) <;> (try simp only [rng]) <;> (first | assumption | omega)) | (exact due_app0 (by omega)) | (exact due_app (by omega)) | (intros; simp; done) | (intros; simp; omega)))
        | with_reducible refine Due.mk ?_
        | omega)
    obtain ⟨o, L', M'⟩ := q
    dsimp only at hq ⊢
    obtain ⟨ho, hI, hIa⟩ := hq
    have hL' := hI.1
    have hM' := hI.2.1
    rcases Nat.lt_or_ge o out with ho | ho
    · have b2 := inb o ho
      have b4 := vb o (tab inn ix)
      have b5 : (((nd : Nat) : Int) + (o : Int)).toNat = nd + o := by omega
      have b6 := gnd o
      have hs := fun a b (h1 : a.length = out) (h2 : b.length = out) h3 h4 h5 h6 h7 h8 => And.intro (hinv_step (L2 := a) (M2 := b) hix hn ho hI h1 h2 h3 h4 h5 h6) (hat_step (L2 := a) (M2 := b) hix ho hIa h3 h4 h7 h8)
      rw [gnd o] at b4 hs
      have sl : ∀ v, (L'.set o v).getD o 0 = v := fun v => getD_set_eq (by omega)
      have sm : ∀ v, (M'.set o v).getD o 0 = v := fun v => getD_set_eq (by omega)
      have ne : ∀ (l : List Int) v o', o' ≠ o → (l.set o v).getD o' 0 = l.getD o' 0 := fun l v o' h => getD_set_ne fun e => h e.symm
      generalize hv : vals.getD (nd + o) 0 = v at *
      have eS : ∀ l : List Int, l.set o v = l.set ((o : Int).toNat + 0) (vals.getD ((nd : Int) + (o : Int)).toNat 0) := fun l => by rw [b5, hv]; rfl
      by_cases c1 : n = 0 ∨ v < L'.getD o 0
      · by_cases c2 : n = 0 ∨ M'.getD o 0 < v
        · repeat' (first
            | refine GZy_i (And.intro hL' (And.intro hM' (And.intro b5 hv))) ?_ ?_ ?_ ?_ ?_ ?_ ?_ ?_
            | with_reducible first | exact BzZq.mk | refine Tw.ret ?_ | refine ImZq.i fun h => ?_ | refine IkZq.i fun hk => ?_)
          refine ⟨(o + 1, (L'.set o v), (M'.set o v)), ⟨by dsimp only; omega, hs (L'.set o v) (M'.set o v) (by simp [hL']) (by simp [hM']) (fun o' h => by first | rfl | exact ne _ _ _ h) (fun o' h => by first | rfl | exact ne _ _ _ h) (by first | (rw [sl]; omega) | omega) (by first | (rw [sm]; omega) | omega) (by first | exact .inl (sl _) | exact .inr ⟨by omega, rfl⟩) (by first | exact .inl (sm _) | exact .inr ⟨by omega, rfl⟩)⟩, by dsimp only; omega, TWk.fcanon env [some 0, some 1, some 2, some 3, some 4] (by rfl) ?_⟩
          repeat' (first
            | exact eS L'
            | exact eS M'
            | with_reducible first | exact Conj.nil | refine Conj.cons rfl ?_ | refine Conj.same ?_ | refine Conj.ask ?_ ?_
            | ((with_reducible refine Due.mk ?_); (first | with_reducible rfl | omega | assumption | decide | ((try simp only [goS] at *) <;> (try intro h) <;> (try intro h') <;> (try simp only [goS] at *) <;> (try simp only [rdi, Int.toNat_natCast, Nat.add_zero] at *) <;> (try simp only [rng]) <;> (first | assumption | omega)) | (exact due_app0 (by omega)) | (exact due_app (by omega)) | (intros; simp; done) | (intros; simp; omega)))
            | with_reducible refine Due.mk ?_
            | omega)
        · repeat' (first
            | refine GZy_i (And.intro hL' (And.intro hM' (And.intro b5 hv))) ?_ ?_ ?_ ?_ ?_ ?_ ?_ ?_
            | with_reducible first | exact BzZq.mk | refine Tw.ret ?_ | refine ImZq.i fun h => ?_ | refine IkZq.i fun hk => ?_)
          refine ⟨(o + 1, (L'.set o v), M'), ⟨by dsimp only; omega, hs (L'.set o v) M' (by simp [hL']) (by simp [hM']) (fun o' h => by first | rfl | exact ne _ _ _ h) (fun o' h => by first | rfl | exact ne _ _ _ h) (by first | (rw [sl]; omega) | omega) (by first | (rw [sm]; omega) | omega) (by first | exact .inl (sl _) | exact .inr ⟨by omega, rfl⟩) (by first | exact .inl (sm _) | exact .inr ⟨by omega, rfl⟩)⟩, by dsimp only; omega, TWk.fcanon env [some 0, some 1, some 2, some 3, some 4] (by rfl) ?_⟩
          repeat' (first
            | exact eS L'
            | exact eS M'
            | with_reducible first | exact Conj.nil | refine Conj.cons rfl ?_ | refine Conj.same ?_ | refine Conj.ask ?_ ?_
            | ((with_reducible refine Due.mk ?_); (first | with_reducible rfl | omega | assumption | decide | ((try simp only [goS] at *) <;> (try intro h) <;> (try intro h') <;> (try simp only [goS] at *) <;> (try simp only [rdi, Int.toNat_natCast, Nat.add_zero] at *) <;> (try simp only [rng]) <;> (first | assumption | omega)) | (exact due_app0 (by omega)) | (exact due_app (by omega)) | (intros; simp; done) | (intros; simp; omega)))
            | with_reducible refine Due.mk ?_
            | omega)
      · by_cases c2 : n = 0 ∨ M'.getD o 0 < v
        · repeat' (first
            | refine GZy_i (And.intro hL' (And.intro hM' (And.intro b5 hv))) ?_ ?_ ?_ ?_ ?_ ?_ ?_ ?_
            | with_reducible first | exact BzZq.mk | refine Tw.ret ?_ | refine ImZq.i fun h => ?_ | refine IkZq.i fun hk => ?_)
          refine ⟨(o + 1, L', (M'.set o v)), ⟨by dsimp only; omega, hs L' (M'.set o v) (by simp [hL']) (by simp [hM']) (fun o' h => by first | rfl | exact ne _ _ _ h) (fun o' h => by first | rfl | exact ne _ _ _ h) (by first | (rw [sl]; omega) | omega) (by first | (rw [sm]; omega) | omega) (by first | exact .inl (sl _) | exact .inr ⟨by omega, rfl⟩) (by first | exact .inl (sm _) | exact .inr ⟨by omega, rfl⟩)⟩, by dsimp only; omega, TWk.fcanon env [some 0, some 1, some 2, some 3, some 4] (by rfl) ?_⟩
          repeat' (first
            | exact eS L'
            | exact eS M'
            | with_reducible first | exact Conj.nil | refine Conj.cons rfl ?_ | refine Conj.same ?_ | refine Conj.ask ?_ ?_
            | ((with_reducible refine Due.mk ?_); (first | with_reducible rfl | omega | assumption | decide | ((try simp only [goS] at *) <;> (try intro h) <;> (try intro h') <;> (try simp only [goS] at *) <;> (try simp only [rdi, Int.toNat_natCast, Nat.add_zero] at *) <;> (try simp only [rng]) <;> (first | assumption | omega)) | (exact due_app0 (by omega)) | (exact due_app (by omega)) | (intros; simp; done) | (intros; simp; omega)))
            | with_reducible refine Due.mk ?_
            | omega)
        · repeat' (first
            | refine GZy_i (And.intro hL' (And.intro hM' (And.intro b5 hv))) ?_ ?_ ?_ ?_ ?_ ?_ ?_ ?_
            | with_reducible first | exact BzZq.mk | refine Tw.ret ?_ | refine ImZq.i fun h => ?_ | refine IkZq.i fun hk => ?_)
          refine ⟨(o + 1, L', M'), ⟨by dsimp only; omega, hs L' M' (by simp [hL']) (by simp [hM']) (fun o' h => by first | rfl | exact ne _ _ _ h) (fun o' h => by first | rfl | exact ne _ _ _ h) (by first | (rw [sl]; omega) | omega) (by first | (rw [sm]; omega) | omega) (by first | exact .inl (sl _) | exact .inr ⟨by omega, rfl⟩) (by first | exact .inl (sm _) | exact .inr ⟨by omega, rfl⟩)⟩, by dsimp only; omega, TWk.fcanon env [some 0, some 1, some 2, some 3, some 4] (by rfl) ?_⟩
          repeat' (first
            | exact eS L'
            | exact eS M'
            | with_reducible first | exact Conj.nil | refine Conj.cons rfl ?_ | refine Conj.same ?_ | refine Conj.ask ?_ ?_
            | ((with_reducible refine Due.mk ?_); (first | with_reducible rfl | omega | assumption | decide | ((try simp only [goS] at *) <;> (try intro h) <;> (try intro h') <;> (try simp only [goS] at *) <;> (try simp only [rdi, Int.toNat_natCast, Nat.add_zero] at *) <;> (try simp only [rng]) <;> (first | assumption | omega)) | (exact due_app0 (by omega)) | (exact due_app (by omega)) | (intros; simp; done) | (intros; simp; omega)))
            | with_reducible refine Due.mk ?_
            | omega)
    · obtain rfl : out = o := by omega
      have hdone : ∀ o', o' < out → ∀ x, inB inn fr to x → br inn fr to x inn < n + 1 → L'.getD o' 0 ≤ gnode vals out s o' (tab inn x) ∧ gnode vals out s o' (tab inn x) ≤ M'.getD o' 0 := fun o' h x hx hr => hI.2.2 o' h x hx (by rw [if_pos h]; exact hr)
      have hdoneA : ∀ o', o' < out → hatt vals out s inn fr to o' L' M' := fun o' h => hIa o' h (by rw [if_pos h]; omega)
      repeat' (first
        | refine GZp_i ?_ ?_ ?_ ?_ ?_ ?_ ?_ ?_
        | with_reducible first | exact BzZq.mk | refine Tw.ret ?_ | refine ImZq.i fun h => ?_ | refine IkZq.i fun hk => ?_)
      have tG : ∀ j, j < inn → (t4 fun i => if i < inn then ((to i : Nat) : Int) else 0).getD j 0 = ((to j : Nat) : Int) := fun j hj => by rw [t4_get (by omega), if_pos hj]
      have fG : ∀ j, j < inn → (t4 fun i => if i < inn then ((fr i : Nat) : Int) else 0).getD j 0 = ((fr j : Nat) : Int) := fun j hj => by rw [t4_get (by omega), if_pos hj]
      refine Tw.loopK [0, 9, 10, 11, 13, 14, 15] (fun q : Nat × (Nat → Nat) => q.1 ≤ inn ∧ (∀ k, k < q.1 → q.2 k = ix k) ∧ ∀ k, q.1 ≤ k → k < inn → ix k = to k ∧ q.2 k = fr k) (fun q => q.1) (fun q => [(19, .int .i64 ((q.1 : Int) - 1))])
        (fun q => [some (.arr Ei (t4 fun i => if i < inn then ((fr i : Nat) : Int) else 0)), some (.arr Ei (t4 fun i => if i < inn then ((to i : Nat) : Int) else 0)), some (.arr Ei (t4 fun i => if i < inn then ((q.2 i : Nat) : Int) else 0)), some (.arr Ei L'), some (.arr Ei M')])
        ⟨(inn, ix), ⟨by dsimp only; omega, fun _ _ => rfl, fun k h1 h2 => by dsimp only at h1; omega⟩, TWk.fcanon env [some 0, some 1, some 2, some 3, some 4] (by rfl) ?_⟩ (fun q hq => ?_)
      · repeat' (first
          | with_reducible first | exact Conj.nil | refine Conj.cons rfl ?_ | refine Conj.same ?_ | refine Conj.ask ?_ ?_
          | ((with_reducible refine Due.mk ?_); (first | with_reducible rfl | omega | assumption | decide | ((try simp only [goS] at *) <;> (try intro h) <;> (try intro h') <;> (try simp only [goS] at *) <;> (try simp only [rdi, Int.toNat_natCast, Nat.add_zero] at *) <;> (try simp only [rng]) <;> (first | assumption | omega)) | (exact due_app0 (by omega)) | (exact due_app (by omega)) | (intros; simp; done) | (intros; simp; omega)))
          | with_reducible refine Due.mk ?_
          | omega)
      obtain ⟨k, iy⟩ := q
      dsimp only at hq ⊢
      obtain ⟨hk, hlo, hhi⟩ := hq
      by_cases hk0 : k = 0
      · subst hk0
        repeat' (first
          | ((with_reducible refine Tw.retI ?_); refine Tw.gc env [3, 4] [6, 7] (by rfl) (by rfl) ?_ (Tw.ret ?_))
          | refine GZy_i l4 ?_ ?_ ?_ ?_ ?_ ?_ ?_ ?_
          | with_reducible first | exact BzZq.mk | refine Tw.ret ?_ | refine ImZq.i fun h => ?_ | refine IkZq.i fun hk => ?_)
        all_goals
          refine ⟨L', M', ⟨hI.1, hI.2.1, fun o ho x hx => hdone o ho x hx ?_, hdoneA⟩, rfl, rfl⟩
          have h1 := br_top hix (Nat.le_refl _) fun k _ h2 => (hhi k (by omega) h2).1
          have h2 := br_lt hx (Nat.le_refl _)
          omega
      · obtain ⟨k, rfl⟩ : ∃ k', k = k' + 1 := ⟨k - 1, by omega⟩
        have c1 : (((k + 1 : Nat) : Int) - 1).toNat = k := by omega
        have c2 := hlo k (by omega)
        have c3 : (t4 fun i => if i < inn then ((iy i : Nat) : Int) else 0).getD k 0 = ((ix k : Nat) : Int) := by rw [t4_get (by omega), if_pos (by omega), c2]
        have c4 := tG k (by omega)
        have c5 := fG k (by omega)
        have c6 := hix k (by omega)
        have c7 := frto k (by omega)
        have upd : ∀ v : Nat, (t4 fun i => if i < inn then ((iy i : Nat) : Int) else 0).set k (v : Int) = t4 fun i => if i < inn then (((if i = k then v else iy i) : Nat) : Int) else 0 := fun v => by
          rw [t4_set]
          exact t4_congr fun i _ => by
            by_cases e : i = k
            · subst e; rw [if_pos rfl, if_pos (by omega), if_pos rfl]
            · rw [if_neg e, if_neg e]
        by_cases he : ix k = to k
        · repeat' (first
            | refine GZy_i (And.intro l4 (And.intro c1 (And.intro c3 (And.intro c4 c5)))) ?_ ?_ ?_ ?_ ?_ ?_ ?_ ?_
            | with_reducible first | exact BzZq.mk | refine Tw.ret ?_ | refine ImZq.i fun h => ?_ | refine IkZq.i fun hk => ?_)
          refine ⟨(k, fun i => if i = k then fr k else iy i), ⟨by dsimp only; omega, fun k' h => ?_, fun k' h1 h2 => ?_⟩, by dsimp only; omega, TWk.fcanon env [some 0, some 1, some 2, some 3, some 4] (by rfl) ?_⟩
          · dsimp only at h ⊢
            rw [if_neg (by omega)]; exact hlo k' (by omega)
          · dsimp only at h1 ⊢
            by_cases e : k' = k
            · subst e; rw [if_pos rfl]; exact ⟨he, rfl⟩
            · rw [if_neg e]; exact hhi k' (by omega) h2
          · have e2 : (t4 fun i => if i < inn then ((iy i : Nat) : Int) else 0).set (((k + 1 : Nat) : Int) - 1).toNat ((t4 fun i => if i < inn then ((fr i : Nat) : Int) else 0).getD (((k + 1 : Nat) : Int) - 1).toNat 0) = t4 fun i => if i < inn then (((if i = k then fr k else iy i) : Nat) : Int) else 0 := by
              rw [c1, c5]; exact upd _
            repeat' (first
              | exact e2.symm
              | refine GZ_i ?_ ?_ ?_ ?_ ?_ ?_ ?_ ?_
              | with_reducible first | exact BzZq.mk | refine Tw.ret ?_ | refine ImZq.i fun h => ?_ | refine IkZq.i fun hk => ?_)
        · have nx := br_next (iy := fun i => if i = k then ix k + 1 else iy i) (k0 := k) (by omega) hix (fun k' h => by rw [if_neg (by omega)]; exact hlo k' (by omega)) (by rw [if_pos rfl]) (by omega) fun k' h1 h2 => by rw [if_neg (by omega)]; exact hhi k' (by omega) h2
          have h1 := br_lt hix (Nat.le_refl _)
          have e3 : (t4 fun i => if i < inn then ((iy i : Nat) : Int) else 0).set (((k + 1 : Nat) : Int) - 1).toNat ((t4 fun i => if i < inn then ((iy i : Nat) : Int) else 0).getD (((k + 1 : Nat) : Int) - 1).toNat 0 + 1) = t4 fun i => if i < inn then (((if i = k then ix k + 1 else iy i) : Nat) : Int) else 0 := by
            rw [c1, c3]; exact upd (ix k + 1)
          repeat' (first
            | refine GZy_i (And.intro l4 (And.intro c1 (And.intro c3 (And.intro c4 c5)))) ?_ ?_ ?_ ?_ ?_ ?_ ?_ ?_
            | with_reducible first | exact BzZq.mk | refine Tw.ret ?_ | refine ImZq.i fun h => ?_ | refine IkZq.i fun hk => ?_)
          have e4 : decide (br inn fr to (fun i => if i = k then ix k + 1 else iy i) inn = 0) = false := by rw [nx.1]; simp
          refine ⟨(fun i => if i = k then ix k + 1 else iy i, L', M'), ⟨nx.2, hI.1, hI.2.1, fun o ho x hx hr => hdone o ho x hx (by dsimp only at hr; omega), fun o ho _ => hdoneA o ho⟩, by dsimp only; omega, TWk.fcanon env [some 0, some 1, some 2, some 3, some 4] (by rfl) ?_⟩
          repeat' (first
            | exact e3.symm
            | exact e4
            | with_reducible first | exact Conj.nil | refine Conj.cons rfl ?_ | refine Conj.same ?_ | refine Conj.ask ?_ ?_
            | ((with_reducible refine Due.mk ?_); (first | with_reducible rfl | omega | assumption | decide | ((try simp only [goS] at *) <;> (try intro h) <;> (try intro h') <;> (try simp only [goS] at *) <;> (try simp only [rdi, Int.toNat_natCast, Nat.add_zero] at *) <;> (try simp only [rng]) <;> (first | assumption | omega)) | (exact due_app0 (by omega)) | (exact due_app (by omega)) | (intros; simp; done) | (intros; simp; omega)))
            | with_reducible refine Due.mk ?_
            | omega)
end Go.Proofs.Ytkapjajlkpepmaa
namespace Go.Proofs.Ytkapjajlkpepmaa
open Go Go.Lite
set_option linter.unusedVariables false
set_option linter.unusedSimpArgs false
set_option maxRecDepth 100000
set_option maxHeartbeats 4000000
theorem ex_min {α : Type} {p : α → Prop} {f : α → Int} {b : Int} (hb : ∀ x, p x → b ≤ f x) : ∀ (n : Nat) (x : α), p x → f x ≤ b + n → ∃ x, p x ∧ ∀ y, p y → f x ≤ f y
  | 0, x, hx, h => ⟨x, hx, fun y hy => by have := hb y hy; omega⟩
  | n + 1, x, hx, h => by
    by_cases e : ∃ y, p y ∧ f y < f x
    · obtain ⟨y, hy, h2⟩ := e
      exact ex_min hb n y hy (by omega)
    · exact ⟨x, hx, fun y hy => by
        by_cases h3 : f x ≤ f y
        · exact h3
        · exact absurd ⟨y, hy, by omega⟩ e⟩
theorem ex_least {α : Type} {p : α → Prop} {f : α → Int} {b : Int} (h0 : ∃ x, p x) (hb : ∀ x, p x → b ≤ f x) : ∃ x, p x ∧ ∀ y, p y → f x ≤ f y := by
  obtain ⟨x, hx⟩ := h0
  exact ex_min hb (f x - b).toNat x hx (by have := hb x hx; omega)
theorem ex_most {α : Type} {p : α → Prop} {f : α → Int} {b : Int} (h0 : ∃ x, p x) (hb : ∀ x, p x → f x ≤ b) : ∃ x, p x ∧ ∀ y, p y → f y ≤ f x := by
  obtain ⟨x, hx, h⟩ := ex_least (f := fun x => -f x) (b := -b) h0 fun x hx => by have := hb x hx; omega
  exact ⟨x, hx, fun y hy => by have := h y hy; omega⟩
theorem hull_ex {inn out s : Nat} {vals : List Int} {lo hi : List Nat} (g : GOk inn out s vals) (hb : ∀ i, i < inn → lo.getD i 0 ≤ hi.getD i 0) : ∃ L M, HullOk vals inn out s lo hi L M := by
  obtain ⟨st1, st2, st3⟩ := g.step
  have h0 : ∃ x : Nat → Nat, ∀ k, k < inn → lo.getD k 0 / gstep s ≤ x k ∧ x k ≤ (hi.getD k 0 + gstep s - 1) / gstep s :=
    ⟨fun k => lo.getD k 0 / gstep s, fun k hk => ⟨Nat.le_refl _, Nat.div_le_div_right (by have := hb k hk; omega)⟩⟩
  have A := fun o => ex_least (f := fun x => gnode vals out s o (tab inn x)) (b := -65536) h0 fun x _ => (gnode_bd g o _).1
  have B := fun o => ex_most (f := fun x => gnode vals out s o (tab inn x)) (b := 65536) h0 fun x _ => (gnode_bd g o _).2
  refine ⟨tab out fun o => gnode vals out s o (tab inn (A o).choose), tab out fun o => gnode vals out s o (tab inn (B o).choose), tab_len, tab_len, fun o ho x hx => ?_, fun o ho => ?_, fun o ho => ?_⟩
  · rw [tab_get ho, tab_get ho]
    exact ⟨(A o).choose_spec.2 x hx, (B o).choose_spec.2 x hx⟩
  · rw [tab_get ho]
    exact ⟨_, (A o).choose_spec.1, rfl⟩
  · rw [tab_get ho]
    exact ⟨_, (B o).choose_spec.1, rfl⟩
theorem hull_one {inn out s : Nat} {vals : List Int} {lo hi : List Nat} {L M L2 M2 : List Int} (h : HullOk vals inn out s lo hi L M) (k : HullOk vals inn out s lo hi L2 M2) : L = L2 ∧ M = M2 := by
  constructor
  · refine ext_getD 0 (by rw [h.l1, k.l1]) fun o ho => ?_
    rw [h.l1] at ho
    obtain ⟨x, hx, e⟩ := h.la o ho
    obtain ⟨y, hy, e2⟩ := k.la o ho
    have h1 := (h.bd o ho y hy).1
    have h2 := (k.bd o ho x hx).1
    omega
  · refine ext_getD 0 (by rw [h.m1, k.m1]) fun o ho => ?_
    rw [h.m1] at ho
    obtain ⟨x, hx, e⟩ := h.ma o ho
    obtain ⟨y, hy, e2⟩ := k.ma o ho
    have h1 := (h.bd o ho y hy).2
    have h2 := (k.bd o ho x hx).2
    omega
theorem hull_x (inn out s : Nat) (vals : List Int) (lo hi : List Nat) (g : GOk inn out s vals) (hl : lo.length = inn) (hh : hi.length = inn) (hb : ∀ i, i < inn → lo.getD i 0 ≤ hi.getD i 0 ∧ hi.getD i 0 ≤ 65280) :
    ∃ L M : List Int, HullOk vals inn out s lo hi L M ∧ TC R Try.prog grid_Hull_f [.pel [.int .i64 inn, .int .i64 out, .int .i64 s, .lst Ei vals], .lst Ei (nz lo), .lst Ei (nz hi)] []
    (fun v X => v = .tup [.sla 1 0 0 out, .sla 1 1 0 out] ∧ X = [some (.arr Ei L), some (.arr Ei M)]) := by
  obtain ⟨L, M, h⟩ := hull_ex g fun i hi => (hb i hi).1
  refine ⟨L, M, h, (hull_r inn out s vals lo hi g hl hh hb).mono ?_⟩
  rintro v X ⟨L2, M2, k, rfl, rfl⟩
  obtain ⟨rfl, rfl⟩ := hull_one h k
  exact ⟨rfl, rfl⟩
end Go.Proofs.Ytkapjajlkpepmaa
namespace Go.Proofs.Ytkapjajlkpepmaa
open Go Go.Lite
set_option linter.unusedVariables false
set_option linter.unusedSimpArgs false
set_option maxRecDepth 100000
set_option maxHeartbeats 4000000

def fstE (f : Nat → Int) : Nat → Int
  | 0 => 0
  | n + 1 => if fstE f n ≠ 0 then fstE f n else f n
theorem fstE_zero {f : Nat → Int} : ∀ {n : Nat}, fstE f n = 0 ↔ ∀ j, j < n → f j = 0
  | 0 => ⟨fun _ j hj => by omega, fun _ => rfl⟩
  | n + 1 => by
    simp only [fstE]
    by_cases h : fstE f n = 0
    · rw [if_neg (by simpa using h)]
      constructor
      · intro h2 j hj
        rcases Nat.lt_or_ge j n with h3 | h3
        · exact fstE_zero.1 h j h3
        · obtain rfl : j = n := by omega
          exact h2
      · intro h2; exact h2 n (by omega)
    · rw [if_pos h]
      constructor
      · intro h2; exact absurd h2 h
      · intro h2; exact fstE_zero.2 fun j hj => h2 j (by omega)
theorem fstE_at {f : Nat → Int} {i : Nat} (h0 : ∀ j, j < i → f j = 0) (h1 : f i ≠ 0) : ∀ {n : Nat}, i < n → fstE f n = f i
  | 0, h => by omega
  | n + 1, h => by
    simp only [fstE]
    rcases Nat.lt_or_ge i n with h3 | h3
    · rw [fstE_at h0 h1 h3, if_pos h1]
    · obtain rfl : i = n := by omega
      rw [if_neg (by simpa using fstE_zero.2 h0)]
end Go.Proofs.Ytkapjajlkpepmaa
namespace Go.Proofs.Ytkapjajlkpepmaa
open Go Go.Lite
set_option linter.unusedVariables false
set_option linter.unusedSimpArgs false
set_option maxRecDepth 100000
set_option maxHeartbeats 4000000
-- @simp rdi

abbrev dB : ByteArray := R.d Es
def nameCh (x : Int) : Prop := (97 ≤ x ∧ x ≤ 122) ∨ (48 ≤ x ∧ x ≤ 57) ∨ x = 45
def nameOk (s : ByteArray) : Prop := 1 ≤ s.size ∧ s.size ≤ 16 ∧ (97 ≤ sat s 0 ∧ sat s 0 ≤ 122) ∧ ∀ j, j < s.size → nameCh (sat s j)
open Classical in
noncomputable def isName (s : ByteArray) : Bool := decide (nameOk s)
theorem isName_c (s : ByteArray) (hs : Due (s.size ≤ 9223372036854775807)) : TC R Try.prog profile_IsName_f [.str s] [] (fun v X => v = .bool (isName s) ∧ X = []) := by
  dsimp only [Due] at hs
  have yes : nameOk s → true = isName s := fun h => by unfold isName; simp [h]
  have no : ¬ nameOk s → false = isName s := fun h => by unfold isName; simp [h]
  refine tc0 env profile_IsName_s (by rfl) ?_
  dsimp only [profile_IsName_c]
  by_cases hh : 1 ≤ s.size ∧ s.size ≤ 16 ∧ (97 ≤ sat s 0 ∧ sat s 0 ≤ 122)
  · repeat' (first
      | refine GZp_i ?_ ?_ ?_ ?_ ?_ ?_ ?_ ?_
      | with_reducible first | exact BzZq.mk | refine Tw.ret ?_ | refine ImZq.i fun h => ?_ | refine IkZq.i fun hk => ?_)
    refine Tw.loopK [0, 24] (fun i : Nat => i ≤ s.size ∧ ∀ j, j < i → nameCh (sat s j)) (fun i => s.size - i) (fun i => [(25, .int .i64 i)]) (fun _ => []) ⟨0, ⟨by omega, fun j hj => by omega⟩, TWk.fcanon env [] (by rfl) ?_⟩ (fun i hi => ?_)
    · repeat' (first
        | with_reducible first | exact Conj.nil | refine Conj.cons rfl ?_ | refine Conj.same ?_ | refine Conj.ask ?_ ?_
        | ((with_reducible refine Due.mk ?_); (first | with_reducible rfl | omega | assumption | decide | ((try simp only [goS] at *) <;> (try intro h) <;> (try intro h') <;> (try simp only [goS] at *) <;> (try simp only [rdi, Int.toNat_natCast, Nat.add_zero] at *) <;> (try simp only [rng]) <;> (first | assumption | omega)) | (exact due_app0 (by omega)) | (exact due_app (by omega)) | (intros; simp; done) | (intros; simp; omega)))
        | with_reducible refine Due.mk ?_
        | omega)
    repeat' (first
      | refine GZp_i ?_ ?_ ?_ ?_ ?_ ?_ ?_ ?_
      | with_reducible first | exact BzZq.mk | refine Tw.ret ?_ | refine ImZq.i fun h => ?_ | refine IkZq.i fun hk => ?_)
    · refine ⟨rfl, congrArg TV.bool (no fun hk => ?_), rfl⟩
      have := hk.2.2.2 i (by omega)
      unfold nameCh at this
      omega
    · refine ⟨i + 1, ⟨by omega, fun j hj => ?_⟩, by omega, TWk.fcanon env [] (by rfl) ?_⟩
      · by_cases e : j = i
        · subst e; unfold nameCh; omega
        · exact hi.2 j (by omega)
      · repeat' (first
          | refine GZ_i ?_ ?_ ?_ ?_ ?_ ?_ ?_ ?_
          | with_reducible first | exact BzZq.mk | refine Tw.ret ?_ | refine ImZq.i fun h => ?_ | refine IkZq.i fun hk => ?_)
    · exact ⟨rfl, congrArg TV.bool (yes ⟨hh.1, hh.2.1, hh.2.2, fun j hj => hi.2 j (by omega)⟩), rfl⟩
  · have hn : false = isName s := no fun hk => hh ⟨hk.1, hk.2.1, hk.2.2.1⟩
    repeat' (first
      | refine GZp_i ?_ ?_ ?_ ?_ ?_ ?_ ?_ ?_
      | with_reducible first | exact BzZq.mk | refine Tw.ret ?_ | refine ImZq.i fun h => ?_ | refine IkZq.i fun hk => ?_)
    exact ⟨rfl, congrArg TV.bool hn, rfl⟩
noncomputable def nmE (l : List ByteArray) (i : Nat) : Int := if isName (l.getD i dB) = true then (@ite _ (∃ j, j < i ∧ l.getD j dB = l.getD i dB) (Classical.propDecidable _) 7 0) else 6
noncomputable def namesE (l : List ByteArray) : Int := fstE (nmE l) l.length
theorem names_c (l : List ByteArray) (hl : Due (l.length ≤ 9223372036854775807)) (wl : Due (∀ y ∈ l, Ws y)) : TC R Try.prog profile_Names_f [.lst Es l] [] (fun v X => v = .int .i64 (namesE l) ∧ X = []) := by
  dsimp only [Due] at hl wl
  refine tc0 env profile_Names_s (by rfl) ?_
  dsimp only [profile_Names_c]
  repeat' (first
    | refine GZ_i ?_ ?_ ?_ ?_ ?_ ?_ ?_ ?_
    | with_reducible first | exact BzZq.mk | refine Tw.ret ?_ | refine ImZq.i fun h => ?_ | refine IkZq.i fun hk => ?_)
  refine Tw.loopK [0, 7, 8] (fun i : Nat => i ≤ l.length ∧ ∀ k, k < i → nmE l k = 0) (fun i => l.length - i) (fun i => [(9, .int .i64 i)]) (fun _ => []) ⟨0, ⟨by omega, fun k hk => by omega⟩, TWk.fcanon env [] (by rfl) ?_⟩ (fun i hi => ?_)
  · repeat' (first
      | with_reducible first | exact Conj.nil | refine Conj.cons rfl ?_ | refine Conj.same ?_ | refine Conj.ask ?_ ?_
      | ((with_reducible refine Due.mk ?_); (first | with_reducible rfl | omega | assumption | decide | ((try simp only [goS] at *) <;> (try intro h) <;> (try intro h') <;> (try simp only [goS] at *) <;> (try simp only [rdi, Int.toNat_natCast, Nat.add_zero] at *) <;> (try simp only [rng]) <;> (first | assumption | omega)) | (exact due_app0 (by omega)) | (exact due_app (by omega)) | (intros; simp; done) | (intros; simp; omega)))
      | with_reducible refine Due.mk ?_
      | omega)
  obtain ⟨hi, hp⟩ := hi
  rcases Nat.lt_or_ge i l.length with hi2 | hi2
  · have ic := isName_c (l.getD i dB) (wl _ (getD_mem hi2))
    cases hn : isName (l.getD i dB)
    · rw [hn] at ic
      have e : nmE l i = 6 := by unfold nmE; rw [if_neg (by rw [hn]; simp)]
      have ef : namesE l = 6 := by unfold namesE; rw [fstE_at hp (by rw [e]; omega) hi2, e]
      repeat' (first
        | ((with_reducible refine TOps.any ?_); refine TOps.callV env (by rfl) (by rfl) (by rfl) (ic) ?_)
        | refine GZp_i ?_ ?_ ?_ ?_ ?_ ?_ ?_ ?_
        | with_reducible first | exact BzZq.mk | refine Tw.ret ?_ | refine ImZq.i fun h => ?_ | refine IkZq.i fun hk => ?_)
      exact ⟨rfl, by rw [ef], rfl⟩
    · rw [hn] at ic
      repeat' (first
        | ((with_reducible refine TOps.any ?_); refine TOps.callV env (by rfl) (by rfl) (by rfl) (ic) ?_)
        | refine GZp_i ?_ ?_ ?_ ?_ ?_ ?_ ?_ ?_
        | with_reducible first | exact BzZq.mk | refine Tw.ret ?_ | refine ImZq.i fun h => ?_ | refine IkZq.i fun hk => ?_)
      refine Tw.loopK [0, 3, 4, 7, 8, 9, 19, 20] (fun j : Nat => j ≤ i ∧ ∀ k, k < j → l.getD k dB ≠ l.getD i dB) (fun j => i - j) (fun j => [(21, .int .i64 j)]) (fun _ => []) ⟨0, ⟨by omega, fun k hk => by omega⟩, TWk.fcanon env [] (by rfl) ?_⟩ (fun j hj => ?_)
      · repeat' (first
          | with_reducible first | exact Conj.nil | refine Conj.cons rfl ?_ | refine Conj.same ?_ | refine Conj.ask ?_ ?_
          | ((with_reducible refine Due.mk ?_); (first | with_reducible rfl | omega | assumption | decide | ((try simp only [goS] at *) <;> (try intro h) <;> (try intro h') <;> (try simp only [goS] at *) <;> (try simp only [rdi, Int.toNat_natCast, Nat.add_zero] at *) <;> (try simp only [rng]) <;> (first | assumption | omega)) | (exact due_app0 (by omega)) | (exact due_app (by omega)) | (intros; simp; done) | (intros; simp; omega)))
          | with_reducible refine Due.mk ?_
          | omega)
      obtain ⟨hj, hq⟩ := hj
      have et : (List.take i l).length = i := by rw [List.length_take]; omega
      rcases Nat.lt_or_ge j i with hj2 | hj2
      · have eg : (List.take i l).getD j dB = l.getD j dB := by rw [List.getD_eq_getElem?_getD, List.getElem?_take, if_pos hj2, ← List.getD_eq_getElem?_getD]
        repeat' (first
          | refine GZy_i et ?_ ?_ ?_ ?_ ?_ ?_ ?_ ?_
          | with_reducible first | exact BzZq.mk | refine Tw.ret ?_ | refine ImZq.i fun h => ?_ | refine IkZq.i fun hk => ?_)
        · have e : nmE l i = 7 := by unfold nmE; rw [if_pos hn, if_pos ⟨j, hj2, by rw [← eg]; exact h.symm⟩]
          exact ⟨rfl, by unfold namesE; rw [fstE_at hp (by rw [e]; omega) hi2, e], rfl⟩
        · refine ⟨j + 1, ⟨by omega, fun k hk => ?_⟩, by omega, TWk.fcanon env [] (by rfl) ?_⟩
          · by_cases e : k = j
            · subst e; rw [← eg]; exact fun e2 => h e2.symm
            · exact hq k (by omega)
          · repeat' (first
              | refine GZ_i ?_ ?_ ?_ ?_ ?_ ?_ ?_ ?_
              | with_reducible first | exact BzZq.mk | refine Tw.ret ?_ | refine ImZq.i fun h => ?_ | refine IkZq.i fun hk => ?_)
      · obtain rfl : j = i := by omega
        repeat' (first
          | refine GZy_i et ?_ ?_ ?_ ?_ ?_ ?_ ?_ ?_
          | with_reducible first | exact BzZq.mk | refine Tw.ret ?_ | refine ImZq.i fun h => ?_ | refine IkZq.i fun hk => ?_)
        refine ⟨j + 1, ⟨by omega, fun k hk => ?_⟩, by omega, TWk.fcanon env [] (by rfl) ?_⟩
        · by_cases e : k = j
          · subst e
            unfold nmE
            rw [if_pos hn, if_neg]
            rintro ⟨x, hx, hx2⟩
            exact hq x hx hx2
          · exact hp k (by omega)
        · repeat' (first
            | refine GZ_i ?_ ?_ ?_ ?_ ?_ ?_ ?_ ?_
            | with_reducible first | exact BzZq.mk | refine Tw.ret ?_ | refine ImZq.i fun h => ?_ | refine IkZq.i fun hk => ?_)
  · obtain rfl : i = l.length := by omega
    repeat' (first
      | refine GZp_i ?_ ?_ ?_ ?_ ?_ ?_ ?_ ?_
      | with_reducible first | exact BzZq.mk | refine Tw.ret ?_ | refine ImZq.i fun h => ?_ | refine IkZq.i fun hk => ?_)
    exact ⟨rfl, by rw [show namesE l = 0 from fstE_zero.2 hp], rfl⟩
end Go.Proofs.Ytkapjajlkpepmaa
namespace Go.Proofs.Ytkapjajlkpepmaa
open Go Go.Lite
set_option linter.unusedVariables false
set_option linter.unusedSimpArgs false
set_option maxRecDepth 100000
set_option maxHeartbeats 4000000

-- @simp rd2i


/-- What Check says from point i on. -/
def scan (c : List (Int × Int)) (i : Nat) : Int :=
  if h : i < c.length then
    if (c.getD i (0, 0)).1 < 0 ∨ 65280 < (c.getD i (0, 0)).1 ∨ (c.getD i (0, 0)).2 < 0 ∨ 65280 < (c.getD i (0, 0)).2 then 3
    else if 0 < i ∧ ((c.getD i (0, 0)).1 ≤ (c.getD (i - 1) (0, 0)).1 ∨ (c.getD i (0, 0)).2 < (c.getD (i - 1) (0, 0)).2) then 18
    else scan c (i + 1)
  else if (c.getD 0 (0, 0)).1 ≠ 0 ∨ (c.getD (c.length - 1) (0, 0)).1 ≠ 65280 then 4 else 0
  termination_by c.length - i
def check (c : List (Int × Int)) : Int := if 33 < c.length then 2 else if c.length < 2 then 1 else scan c 0

theorem check_c (c : List (Int × Int)) : TC R Try.prog curve_Check_f [.agg [.lst E2i c]] [] (fun v X => v = .int .i64 (check c) ∧ X = []) := by
  refine tc0 env curve_Check_s (by rfl) ?_
  dsimp only [curve_Check_c]
  repeat' (first
    | refine GZ_2i ?_ ?_ ?_ ?_ ?_ ?_ ?_ ?_
    | with_reducible first | exact BzZq.mk | refine Tw.ret ?_ | refine ImZq.i fun h => ?_ | refine IkZq.i fun hk => ?_)
  · exact ⟨rfl, by rw [check, if_pos (by omega)], rfl⟩
  · exact ⟨rfl, by rw [check, if_neg (by omega), if_pos (by omega)], rfl⟩
  have hc : check c = scan c 0 := by rw [check, if_neg (by omega), if_neg (by omega)]
  refine Tw.loopK [1, 16, 17] (fun i : Nat => i ≤ c.length ∧ scan c 0 = scan c i) (fun i => c.length - i) (fun i => [(18, .int .i64 i)]) (fun _ => [some (.cells [.lst E2i c])]) ⟨0, ⟨by omega, rfl⟩, TWk.fcanon env [some 0] (by rfl) ?_⟩ (fun i hi => ?_)
  repeat' (first
    | refine ⟨i+1, ⟨?_, ?_⟩, ?_, TWk.fcanon env [some 0] (by rfl) ?_⟩
    | with_reducible first | refine Tw.seq ?_ | refine Tw.reg ?_ | refine Tw.block ?_ | refine Tw.scope ?_ | refine Tw.skip ?_ | refine Tw.exit ?_ | refine Tw.ret ?_ | refine seqN ?_ | refine seqR ?_ | refine seqE ?_ | refine rndN ?_ | refine blkN ?_ | refine blkR ?_ | refine blkE1 ?_ | refine blkE0 (by kernel_rfl) ?_ | refine scpN ?_ | refine scpR ?_ | refine scpE ?_ | refine TOps.nil ?_ | exact Conj.nil | refine Conj.cons rfl ?_ | refine Conj.same ?_ | refine Conj.ask ?_ ?_ | refine Tw.regd env ?_ | refine TDr.nil ⟨by kernel_rfl, ?_⟩
    | ((with_reducible refine TOps.any ?_); first | refine TOps.frunP env (by rfl) (by rfl) ?_ ?_ | (refine TOps.known (by rfl) ?_; refine TOps.strip env (by rfl) (by rfl) ?_ ?_) | refine TOps.on (by rfl) (by rfl) ?_)
    | ((with_reducible refine TDr.any ?_); refine TDr.frunP env (by rfl) (by rfl) ?_ ?_)
    | ((with_reducible refine Tw.any ?_); first | refine Tw.condT (by rfl) ?_ | refine Tw.condF (by rfl) ?_)
    | ((first | ((with_reducible refine TOps.any ?_); (fail_if_success refine TOps.known (by rfl) ?_); refine TOps.ask (by rfl) (fun h => ?_) (fun h => ?_)) | ((with_reducible refine TDr.any ?_); (fail_if_success refine TDr.known (by first | rfl | assumption) ?_); refine TDr.ask (by rfl) (fun h hk => ?_) (fun h => ?_)) | ((with_reducible refine Tw.any ?_); refine Tw.cond (by rfl) (fun h => ?_) (fun h => ?_))) <;> (try simp only [goS] at h) <;> (try simp only [rd2i, Int.toNat_natCast, Nat.add_zero] at h))
    | ((with_reducible refine tret.any ?_); first | refine tret.ok (by rfl) ?_ | refine tret.okN (by rfl) ?_)
    | ((with_reducible refine Due.mk ?_); (first | with_reducible rfl | omega | assumption | decide | ((try simp only [goS] at *) <;> (try intro h) <;> (try intro h') <;> (try simp only [goS] at *) <;> (try simp only [rd2i, Int.toNat_natCast, Nat.add_zero] at *) <;> (try simp only [rng]) <;> (first | assumption | omega)) | (exact due_app0 (by omega)) | (exact due_app (by omega)) | (intros; simp; done) | (intros; simp; omega)))
    | with_reducible refine Due.mk ?_
    | omega)
  · exact ⟨rfl, by rw [hc, hi.2, scan, dif_pos (by omega), if_pos (by omega)], rfl⟩
  · rw [show ((i : Int) - 1).toNat = i - 1 by omega] at h
    exact ⟨rfl, by rw [hc, hi.2, scan, dif_pos (by omega), if_neg (by omega), if_pos (by omega)], rfl⟩
  · rw [show ((i : Int) - 1).toNat = i - 1 by omega] at h
    rw [hi.2, scan, dif_pos (by omega), if_neg (by omega), if_neg (by omega)]
  repeat' (first
    | refine GZ_2i ?_ ?_ ?_ ?_ ?_ ?_ ?_ ?_
    | with_reducible first | exact BzZq.mk | refine Tw.ret ?_ | refine ImZq.i fun h => ?_ | refine IkZq.i fun hk => ?_)
  · rw [show ((c.length : Int) - 1).toNat = c.length - 1 by omega] at h
    exact ⟨rfl, by rw [hc, hi.2, scan, dif_neg (by omega), if_pos (by omega)], rfl⟩
  · rw [show ((c.length : Int) - 1).toNat = c.length - 1 by omega] at h
    exact ⟨rfl, by rw [hc, hi.2, scan, dif_neg (by omega), if_neg (by omega)], rfl⟩

/-- What Check answers 0 to. -/
structure Valid (c : List (Int × Int)) : Prop where
  len : 2 ≤ c.length ∧ c.length ≤ 33
  rg : ∀ i, i < c.length → 0 ≤ (c.getD i (0, 0)).1 ∧ (c.getD i (0, 0)).1 ≤ 65280 ∧ 0 ≤ (c.getD i (0, 0)).2 ∧ (c.getD i (0, 0)).2 ≤ 65280
  ord : ∀ i, i + 1 < c.length → (c.getD i (0, 0)).1 < (c.getD (i + 1) (0, 0)).1 ∧ (c.getD i (0, 0)).2 ≤ (c.getD (i + 1) (0, 0)).2
  first : (c.getD 0 (0, 0)).1 = 0
  last : (c.getD (c.length - 1) (0, 0)).1 = 65280

theorem scan_ok (c : List (Int × Int)) (n : Nat) : ∀ i, c.length - i = n → scan c i = 0 → (∀ j, i ≤ j → j < c.length → 0 ≤ (c.getD j (0, 0)).1 ∧ (c.getD j (0, 0)).1 ≤ 65280 ∧ 0 ≤ (c.getD j (0, 0)).2 ∧ (c.getD j (0, 0)).2 ≤ 65280) ∧
    (∀ j, i ≤ j → 0 < j → j < c.length → (c.getD (j - 1) (0, 0)).1 < (c.getD j (0, 0)).1 ∧ (c.getD (j - 1) (0, 0)).2 ≤ (c.getD j (0, 0)).2) ∧ (c.getD 0 (0, 0)).1 = 0 ∧ (c.getD (c.length - 1) (0, 0)).1 = 65280 := by
  induction n with
  | zero =>
    intro i hn h
    rw [scan, dif_neg (by omega)] at h
    split at h
    · cases h
    · exact ⟨fun j h1 h2 => by omega, fun j h1 h2 h3 => by omega, by omega, by omega⟩
  | succ n ih =>
    intro i hn h
    rw [scan, dif_pos (by omega)] at h
    split at h
    · cases h
    · rename_i h1
      split at h
      · cases h
      · rename_i h2
        obtain ⟨k1, k2, k3, k4⟩ := ih (i + 1) (by omega) h
        refine ⟨fun j hj hl => ?_, fun j hj h0 hl => ?_, k3, k4⟩
        · by_cases e : j = i
          · subst e; omega
          · exact k1 j (by omega) hl
        · by_cases e : j = i
          · subst e; omega
          · exact k2 j (by omega) h0 hl

theorem check_ok {c : List (Int × Int)} (h : check c = 0) : Valid c := by
  unfold check at h
  split at h
  · cases h
  · split at h
    · cases h
    · obtain ⟨k1, k2, k3, k4⟩ := scan_ok c _ 0 rfl h
      exact ⟨by omega, fun i hi => k1 i (by omega) hi, fun i hi => k2 (i + 1) (by omega) (by omega) hi, k3, k4⟩
end Go.Proofs.Ytkapjajlkpepmaa
