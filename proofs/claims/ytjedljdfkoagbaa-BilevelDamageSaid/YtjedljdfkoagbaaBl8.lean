/- Compressed bitmaps: numbers, and a part of a bitmap. -/
import Derived.Test.YtjedljdfkoagbaaBl4
import Derived.Test.YtjedljdfkoagbaaXBilevelDamage0
import Derived.Test.YtjedljdfkoagbaaGo
namespace Go.Proofs.Ytjedljdfkoagbaa
open Go Go.Lite
set_option linter.unusedVariables false
set_option linter.unusedSimpArgs false
set_option maxRecDepth 100000
set_option maxHeartbeats 4000000
-- @simp rdi rdy

def n16 (v : Nat) : List Int := [((v / 256 % 256 : Nat) : Int), ((v % 256 : Nat) : Int)]
theorem n16_eq (v : Nat) : cut [(v : Int) / 2 ^ Int.toNat 8 % 256, (v : Int) % 256] 0 2 = n16 v := by
  show [(v : Int) / 256 % 256, (v : Int) % 256] = n16 v
  unfold n16
  rw [show (v : Int) / 256 % 256 = ((v / 256 % 256 : Nat) : Int) by omega, show (v : Int) % 256 = ((v % 256 : Nat) : Int) by omega]
theorem put16_n (v : Nat) (hv : v < 16777216) : TC R Try.prog profile_Put16_f [.nils, .int .i64 v] [] (fun x X => x = .sla 1 0 0 2 ∧ X = [some (.arr Ey (n16 v))]) := by
  have e := n16_eq v
  have d1 : (cut [(v : Int) / 2 ^ Int.toNat 8 % 256, (v : Int) % 256] 0 2).length * 1 ≤ 140737488355328 ∧ (cut [(v : Int) / 2 ^ Int.toNat 8 % 256, (v : Int) % 256] 0 2).length ≤ 140737488355328 := by rw [e]; show 2 * 1 ≤ 140737488355328 ∧ 2 ≤ 140737488355328; omega
  have raw : TC R Try.prog profile_Put16_f [.nils, .int .i64 v] [] (fun x X => x = .sla 1 1 0 2 ∧ ∃ a, X = [a, some (.arr Ey (n16 v))]) := by
    refine tc env profile_Put16_s (by rfl) ?_
    dsimp only [profile_Put16_c]
    repeat' (first
      | exact d1
      | refine GZp_i_y ?_ ?_ ?_ ?_ ?_ ?_ ?_ ?_
      | with_reducible first | exact BzZq.mk | refine Tw.ret ?_ | refine ImZq.i fun h => ?_ | refine IkZq.i fun hk => ?_)
    rw [← e]
    exact ⟨rfl, _, rfl⟩
  refine raw.wk fun v X h => ?_
  obtain ⟨rfl, a, rfl⟩ := h
  exact ⟨_, _, TWk.fcanon env [some 1] (by rfl) (by repeat' (first | exact trivial | refine ⟨rfl, ?_⟩)), rfl, rfl⟩
theorem put16_m (xs : List Int) (n : Nat) (hn : n = xs.length) (v : Nat) (hv : v < 16777216) (hx : xs.length ≤ 100000000) : TC R Try.prog profile_Put16_f [.sla 1 0 0 n, .int .i64 v] [some (.arr Ey xs)]
    (fun x X => x = .sla 1 1 0 (n + 2) ∧ X = [none, some (.arr Ey (xs ++ n16 v))]) := by
  have e := n16_eq v
  have ln : (n16 v).length = 2 := rfl
  have z : 0 + n ≤ xs.length := by omega
  have d1 : (n + (cut [(v : Int) / 2 ^ Int.toNat 8 % 256, (v : Int) % 256] 0 2).length) * 1 ≤ 140737488355328 ∧ n + (cut [(v : Int) / 2 ^ Int.toNat 8 % 256, (v : Int) % 256] 0 2).length ≤ 140737488355328 := by rw [e, ln]; omega
  have e2 : xs ++ n16 v = cut xs 0 n ++ cut [(v : Int) / 2 ^ Int.toNat 8 % 256, (v : Int) % 256] 0 2 := by rw [cut_all hn, e]
  have raw : TC R Try.prog profile_Put16_f [.sla 1 0 0 n, .int .i64 v] [some (.arr Ey xs)] (fun x X => x = .sla 1 2 0 (n + 2) ∧ ∃ a, X = [none, a, some (.arr Ey (xs ++ n16 v))]) := by
    refine tc env profile_Put16_s (by rfl) ?_
    dsimp only [profile_Put16_c]
    repeat' (first
      | exact z
      | exact d1
      | refine GZp_i_y ?_ ?_ ?_ ?_ ?_ ?_ ?_ ?_
      | with_reducible first | exact BzZq.mk | refine Tw.ret ?_ | refine ImZq.i fun h => ?_ | refine IkZq.i fun hk => ?_)
    rw [e2]
    exact ⟨rfl, _, rfl⟩
  refine raw.wk fun v X h => ?_
  obtain ⟨rfl, a, rfl⟩ := h
  exact ⟨_, _, TWk.fcanon env [some 0, some 2] (by rfl) (by repeat' (first | exact trivial | refine ⟨rfl, ?_⟩)), rfl, rfl⟩
theorem put16_h (xs : List Int) (v : Nat) (hv : v < 16777216) (hx : xs.length ≤ 100000000) : TC R Try.prog profile_Put16_f [.sla 1 0 0 xs.length, .int .i64 v] [some (.arr Ey xs)]
    (fun x X => x = .sla 1 1 0 (xs.length + 2) ∧ X = [none, some (.arr Ey (xs ++ n16 v))]) := put16_m xs xs.length rfl v hv hx
theorem bor8 {a b : Nat} (hb : b < 256) : bor ((a : Int) * 2 ^ Int.toNat 8) (b : Int) = ((a * 256 + b : Nat) : Int) := by
  have e : (a : Int) * 2 ^ Int.toNat 8 = ((2 ^ 8 * a : Nat) : Int) := by
    show (a : Int) * 256 = _
    omega
  have h := Nat.two_pow_add_eq_or_of_lt (i := 8) (b := b) (by omega) a
  rw [e]
  unfold bor
  rw [Int.toNat_natCast, Int.toNat_natCast, ← h]
  omega
theorem get16_c (xs : List Int) (a b : Nat) (hx : 2 ≤ xs.length) (ha : a < 256) (hb : b < 256) (h0 : xs.getD 0 0 = (a : Int)) (h1 : xs.getD 1 0 = (b : Int)) :
    TC R Try.prog profile_Get16_f [.lst Ey xs] [] (fun x X => x = .int .i64 (a * 256 + b : Nat) ∧ X = []) := by
  have g0 : xs.getD (Int.toNat 0) (R.d Ey) = (a : Int) := h0
  have g1 : xs.getD (Int.toNat 1) (R.d Ey) = (b : Int) := h1
  have c0 : 0 ≤ (a : Int) * 2 ^ Int.toNat 8 ∧ (a : Int) * 2 ^ Int.toNat 8 ≤ 65535 := by
    show 0 ≤ (a : Int) * 256 ∧ (a : Int) * 256 ≤ 65535
    omega
  have r0 : rng .i64 (xs.getD (Int.toNat 0) (R.d Ey) * 2 ^ Int.toNat 8) := by rw [g0]; exact ⟨by omega, by omega⟩
  have r1 : rng .i64 (xs.getD (Int.toNat 1) (R.d Ey)) := by rw [g1]; exact ⟨by omega, by omega⟩
  have p0 : 0 ≤ xs.getD (Int.toNat 0) (R.d Ey) * 2 ^ Int.toNat 8 := by rw [g0]; exact c0.1
  have p1 : 0 ≤ xs.getD (Int.toNat 1) (R.d Ey) := by rw [g1]; omega
  have q0 : rng .i64 (xs.getD (Int.toNat 0) (R.d Ey)) := by rw [g0]; exact ⟨by omega, by omega⟩
  refine tc0 env profile_Get16_s (by rfl) ?_
  dsimp only [profile_Get16_c]
  repeat' (first
    | exact r0
    | exact r1
    | exact q0
    | exact p0
    | exact p1
    | refine GZp_i_y ?_ ?_ ?_ ?_ ?_ ?_ ?_ ?_
    | with_reducible first | exact BzZq.mk | refine Tw.ret ?_ | refine ImZq.i fun h => ?_ | refine IkZq.i fun hk => ?_)
  refine ⟨rfl, congrArg (TV.int IntKind.i64) ?_, rfl⟩
  rw [g0, g1]
  exact bor8 hb

/-- Rows a, .., a + n - 1 of a bitmap. -/
theorem cut_rows {w h a n : Nat} {f : Nat → Nat → Bool} (hw : 0 < w) (hn : a + n ≤ h) : cut (bm w h f) (a * st w) (st w * n) = bm w n fun x y => f x (a + y) := by
  have h0 : 0 < st w := st_pos hw
  have hle : (a + n) * st w ≤ h * st w := Nat.mul_le_mul_right _ hn
  rw [Nat.add_mul, Nat.mul_comm n] at hle
  have hl : (cut (bm w h f) (a * st w) (st w * n)).length = st w * n := cut_length (by rw [bm_len, Nat.mul_comm (st w) h]; omega)
  refine ext_getD 0 (by rw [hl, bm_len]) fun i hi => ?_
  rw [hl] at hi
  have e1 : (cut (bm w h f) (a * st w) (st w * n)).getD i 0 = (bm w h f).getD (a * st w + i) 0 := by
    rw [cut_eq, List.getD_eq_getElem?_getD, List.getElem?_take, if_pos hi, List.getElem?_drop, ← List.getD_eq_getElem?_getD]
  rw [e1, bm_get (by rw [Nat.mul_comm (st w) h]; omega), bm_get hi]
  have m1 : (a * st w + i) % st w = i % st w := by rw [Nat.mul_comm, Nat.mul_add_mod]
  have m2 : (a * st w + i) / st w = a + i / st w := by rw [Nat.mul_comm, Nat.mul_add_div h0]
  unfold bmB
  rw [m1, m2]
/-- The height of stripe k, and its pixels. -/
def hK (h r k : Nat) : Nat := min ((k + 1) * r) h - k * r
def fK (f : Nat → Nat → Bool) (r k : Nat) (x y : Nat) : Bool := f x (k * r + y)
theorem hK_bd {h r k : Nat} (hr : 1 ≤ r) (hk : k < (h + r - 1) / r) : 1 ≤ hK h r k ∧ hK h r k ≤ r ∧ k * r + hK h r k ≤ h := by
  have h1 : k * r < h := by
    have h2 : (k + 1) ≤ (h + r - 1) / r := hk
    rw [Nat.le_div_iff_mul_le hr, Nat.add_mul] at h2
    omega
  unfold hK
  rw [Nat.add_mul]
  omega

theorem part_c (w h r k : Nat) (f : Nat → Nat → Bool) (hw : 1 ≤ w ∧ w ≤ 1024) (hh : 1 ≤ h ∧ h ≤ 1024) (hr : 1 ≤ r ∧ r ≤ 64) (hk : k < (h + r - 1) / r) :
    TC R Try.prog bilevel_Part_f [.ptr 0 0, .int .i64 r, .int .i64 k] [some (.cells [.int .i64 w, .int .i64 h, .lst Ey (bm w h f)])]
      (fun v X => v = .agg [.int .i64 w, .int .i64 (hK h r k), .sla 1 1 0 (st w * hK h r k)] ∧ X = [some (.cells [.int .i64 w, .int .i64 h, .lst Ey (bm w h f)]), some (.arr Ey (bm w (hK h r k) (fK f r k)))]) := by
  have kb := hK_bd hr.1 hk
  have q1 : quo ((w : Int) + 7) 8 = (st w : Int) := by rw [quo_nn (by omega)]; unfold st; omega
  have sb : 1 ≤ st w ∧ st w ≤ 128 := by unfold st; omega
  have e1 : (k : Int) * (r : Int) = ((k * r : Nat) : Int) := by simp
  have e2 : ((k : Int) + 1) * (r : Int) = (((k + 1) * r : Nat) : Int) := by simp
  have hkr : (k + 1) * r ≤ 1024 + 64 := by rw [Nat.add_mul]; omega
  have kb2 : k ≤ 1024 := by
    have := Nat.le_mul_of_pos_right k (show 0 < r by omega)
    omega
  have hm : min (((k : Int) + 1) * (r : Int)) (h : Int) = ((k * r + hK h r k : Nat) : Int) := by
    rw [e2]
    have hh2 : hK h r k = min ((k + 1) * r) h - k * r := rfl
    have : k * r ≤ (k + 1) * r := Nat.mul_le_mul_right _ (by omega)
    omega
  have eA : (k : Int) * (r : Int) * quo ((w : Int) + 7) 8 = ((k * r * st w : Nat) : Int) := by rw [q1, e1, ← Int.natCast_mul]
  have eB : min (((k : Int) + 1) * (r : Int)) (h : Int) * quo ((w : Int) + 7) 8 = (((k * r + hK h r k) * st w : Nat) : Int) := by rw [q1, hm, ← Int.natCast_mul]
  have le1 : k * r * st w ≤ (k * r + hK h r k) * st w := Nat.mul_le_mul_right _ (by omega)
  have le2 : (k * r + hK h r k) * st w ≤ h * st w := Nat.mul_le_mul_right _ (by omega)
  have le3 : h * st w ≤ 1024 * 128 := Nat.mul_le_mul hh.2 sb.2
  have eL : List.take ((min (((k : Int) + 1) * (r : Int)) (h : Int) * quo ((w : Int) + 7) 8).toNat - ((k : Int) * (r : Int) * quo ((w : Int) + 7) 8).toNat) (List.drop ((k : Int) * (r : Int) * quo ((w : Int) + 7) 8).toNat (bm w h f)) = bm w (hK h r k) (fK f r k) := by
    have := cut_rows (w := w) (a := k * r) (n := hK h r k) (f := f) (show 0 < w by omega) kb.2.2
    rw [cut_eq] at this
    rw [eA, eB, Int.toNat_natCast, Int.toNat_natCast, Nat.add_mul, Nat.add_sub_cancel_left, Nat.mul_comm (hK h r k)]
    exact this
  have lh : (bm w (hK h r k) (fK f r k)).length = st w * hK h r k := bm_len
  have lhb : st w * hK h r k ≤ 128 * 1024 := Nat.mul_le_mul sb.2 (by omega)
  have d1 : -9223372036854775808 ≤ (k : Int) * (r : Int) * quo ((w : Int) + 7) 8 ∧ (k : Int) * (r : Int) * quo ((w : Int) + 7) 8 ≤ 9223372036854775807 := by rw [eA]; omega
  have d2 : -9223372036854775808 ≤ min (((k : Int) + 1) * (r : Int)) (h : Int) * quo ((w : Int) + 7) 8 ∧ min (((k : Int) + 1) * (r : Int)) (h : Int) * quo ((w : Int) + 7) 8 ≤ 9223372036854775807 := by rw [eB]; omega
  have d3 : 0 ≤ (k : Int) * (r : Int) * quo ((w : Int) + 7) 8 ∧ (k : Int) * (r : Int) * quo ((w : Int) + 7) 8 ≤ min (((k : Int) + 1) * (r : Int)) (h : Int) * quo ((w : Int) + 7) 8 ∧ min (((k : Int) + 1) * (r : Int)) (h : Int) * quo ((w : Int) + 7) 8 ≤ ((bm w h f).length : Int) := by
    rw [eA, eB, bm_len, Nat.mul_comm (st w) h]; omega
  have d4 : (List.take ((min (((k : Int) + 1) * (r : Int)) (h : Int) * quo ((w : Int) + 7) 8).toNat - ((k : Int) * (r : Int) * quo ((w : Int) + 7) 8).toNat) (List.drop ((k : Int) * (r : Int) * quo ((w : Int) + 7) 8).toNat (bm w h f))).length * 1 ≤ 140737488355328 ∧ (List.take ((min (((k : Int) + 1) * (r : Int)) (h : Int) * quo ((w : Int) + 7) 8).toNat - ((k : Int) * (r : Int) * quo ((w : Int) + 7) 8).toNat) (List.drop ((k : Int) * (r : Int) * quo ((w : Int) + 7) 8).toNat (bm w h f))).length ≤ 140737488355328 := by rw [eL, lh]; omega
  have d5 : min (((k : Int) + 1) * (r : Int)) (h : Int) - (k : Int) * (r : Int) = ((hK h r k : Nat) : Int) := by rw [hm, e1]; omega
  have raw : TC R Try.prog bilevel_Part_f [.ptr 0 0, .int .i64 r, .int .i64 k] [some (.cells [.int .i64 w, .int .i64 h, .lst Ey (bm w h f)])]
      (fun v X => v = .agg [.int .i64 w, .int .i64 (hK h r k), .sla 1 2 0 (st w * hK h r k)] ∧ ∃ a, X = [some (.cells [.int .i64 w, .int .i64 h, .lst Ey (bm w h f)]), a, some (.arr Ey (bm w (hK h r k) (fK f r k)))]) := by
    refine tc env bilevel_Part_s (by rfl) ?_
    dsimp only [bilevel_Part_c]
    repeat' (first
      | exact d1
      | exact d2
      | exact d3
      | exact d4
      | refine GZy_i_y (And.intro e1 e2) ?_ ?_ ?_ ?_ ?_ ?_ ?_ ?_
      | with_reducible first | exact BzZq.mk | refine Tw.ret ?_ | refine ImZq.i fun h => ?_ | refine IkZq.i fun hk => ?_)
    rw [eL, d5, lh]
    exact ⟨rfl, _, rfl⟩
  refine raw.wk fun v X h => ?_
  obtain ⟨rfl, a, rfl⟩ := h
  refine ⟨_, [some (.cells [.int .i64 w, .int .i64 h, .lst Ey (bm w h f)]), some (.arr Ey (bm w (hK h r k) (fK f r k)))], TWk.fcanon env [some 0, some 2] (F' := [(0, .agg [.int .i64 w, .int .i64 (hK h r k), .sla 1 1 0 (st w * hK h r k)])]) (by rfl) ?_, rfl, rfl⟩
  repeat' (first | exact trivial | refine ⟨rfl, ?_⟩)
end Go.Proofs.Ytjedljdfkoagbaa
