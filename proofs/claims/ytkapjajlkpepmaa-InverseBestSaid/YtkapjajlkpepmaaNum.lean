/- Merged: Hull Fst Names Curve1 Curve2 Num. -/
import Derived.Test.YtkapjajlkpepmaaGrid4
import Derived.Test.YtkapjajlkpepmaaGrid1
import Derived.Test.YtkapjajlkpepmaaXInverseBest0
import Derived.Test.YtkapjajlkpepmaaGo
import Derived.Test.YtkapjajlkpepmaaLiteTP
namespace Go.Proofs.Ytkapjajlkpepmaa
open Go Go.Lite
set_option linter.unusedVariables false
set_option linter.unusedSimpArgs false
set_option maxRecDepth 100000
set_option maxHeartbeats 4000000
theorem ex_min {α : Type} {p : α → Prop} {f : α → Int} {b : Int} (hb : ∀ x, p x → b ≤ f x) : ∀ (n : Nat) (x : α), p x → f x ≤ b + n → ∃ x, p x ∧ ∀ y, p y → f x ≤ f y
  | 0, x, hx, h => ⟨x, hx, fun y hy => by have := hb y hy; omega⟩
  | n + 1, x, hx, h => by
    by_cases e : ∃ y, p y ∧ f y < f x
    · obtain ⟨y, hy, h2⟩ := e
      exact ex_min hb n y hy (by omega)
    · exact ⟨x, hx, fun y hy => by
        by_cases h3 : f x ≤ f y
        · exact h3
        · exact absurd ⟨y, hy, by omega⟩ e⟩
theorem ex_least {α : Type} {p : α → Prop} {f : α → Int} {b : Int} (h0 : ∃ x, p x) (hb : ∀ x, p x → b ≤ f x) : ∃ x, p x ∧ ∀ y, p y → f x ≤ f y := by
  obtain ⟨x, hx⟩ := h0
  exact ex_min hb (f x - b).toNat x hx (by have := hb x hx; omega)
theorem ex_most {α : Type} {p : α → Prop} {f : α → Int} {b : Int} (h0 : ∃ x, p x) (hb : ∀ x, p x → f x ≤ b) : ∃ x, p x ∧ ∀ y, p y → f y ≤ f x := by
  obtain ⟨x, hx, h⟩ := ex_least (f := fun x => -f x) (b := -b) h0 fun x hx => by have := hb x hx; omega
  exact ⟨x, hx, fun y hy => by have := h y hy; omega⟩
theorem hull_ex {inn out s : Nat} {vals : List Int} {lo hi : List Nat} (g : GOk inn out s vals) (hb : ∀ i, i < inn → lo.getD i 0 ≤ hi.getD i 0) : ∃ L M, HullOk vals inn out s lo hi L M := by
  obtain ⟨st1, st2, st3⟩ := g.step
  have h0 : ∃ x : Nat → Nat, ∀ k, k < inn → lo.getD k 0 / gstep s ≤ x k ∧ x k ≤ (hi.getD k 0 + gstep s - 1) / gstep s :=
    ⟨fun k => lo.getD k 0 / gstep s, fun k hk => ⟨Nat.le_refl _, Nat.div_le_div_right (by have := hb k hk; omega)⟩⟩
  have A := fun o => ex_least (f := fun x => gnode vals out s o (tab inn x)) (b := -65536) h0 fun x _ => (gnode_bd g o _).1
  have B := fun o => ex_most (f := fun x => gnode vals out s o (tab inn x)) (b := 65536) h0 fun x _ => (gnode_bd g o _).2
  refine ⟨tab out fun o => gnode vals out s o (tab inn (A o).choose), tab out fun o => gnode vals out s o (tab inn (B o).choose), tab_len, tab_len, fun o ho x hx => ?_, fun o ho => ?_, fun o ho => ?_⟩
  · rw [tab_get ho, tab_get ho]
    exact ⟨(A o).choose_spec.2 x hx, (B o).choose_spec.2 x hx⟩
  · rw [tab_get ho]
    exact ⟨_, (A o).choose_spec.1, rfl⟩
  · rw [tab_get ho]
    exact ⟨_, (B o).choose_spec.1, rfl⟩
theorem hull_one {inn out s : Nat} {vals : List Int} {lo hi : List Nat} {L M L2 M2 : List Int} (h : HullOk vals inn out s lo hi L M) (k : HullOk vals inn out s lo hi L2 M2) : L = L2 ∧ M = M2 := by
  constructor
  · refine ext_getD 0 (by rw [h.l1, k.l1]) fun o ho => ?_
    rw [h.l1] at ho
    obtain ⟨x, hx, e⟩ := h.la o ho
    obtain ⟨y, hy, e2⟩ := k.la o ho
    have h1 := (h.bd o ho y hy).1
    have h2 := (k.bd o ho x hx).1
    omega
  · refine ext_getD 0 (by rw [h.m1, k.m1]) fun o ho => ?_
    rw [h.m1] at ho
    obtain ⟨x, hx, e⟩ := h.ma o ho
    obtain ⟨y, hy, e2⟩ := k.ma o ho
    have h1 := (h.bd o ho y hy).2
    have h2 := (k.bd o ho x hx).2
    omega
theorem hull_x (inn out s : Nat) (vals : List Int) (lo hi : List Nat) (g : GOk inn out s vals) (hl : lo.length = inn) (hh : hi.length = inn) (hb : ∀ i, i < inn → lo.getD i 0 ≤ hi.getD i 0 ∧ hi.getD i 0 ≤ 65280) :
    ∃ L M : List Int, HullOk vals inn out s lo hi L M ∧ TC R Try.prog grid_Hull_f [.pel [.int .i64 inn, .int .i64 out, .int .i64 s, .lst Ei vals], .lst Ei (nz lo), .lst Ei (nz hi)] []
    (fun v X => v = .tup [.sla 1 0 0 out, .sla 1 1 0 out] ∧ X = [some (.arr Ei L), some (.arr Ei M)]) := by
  obtain ⟨L, M, h⟩ := hull_ex g fun i hi => (hb i hi).1
  refine ⟨L, M, h, (hull_r inn out s vals lo hi g hl hh hb).mono ?_⟩
  rintro v X ⟨L2, M2, k, rfl, rfl⟩
  obtain ⟨rfl, rfl⟩ := hull_one h k
  exact ⟨rfl, rfl⟩
end Go.Proofs.Ytkapjajlkpepmaa
namespace Go.Proofs.Ytkapjajlkpepmaa
open Go Go.Lite
set_option linter.unusedVariables false
set_option linter.unusedSimpArgs false
set_option maxRecDepth 100000
set_option maxHeartbeats 4000000

def fstE (f : Nat → Int) : Nat → Int
  | 0 => 0
  | n + 1 => if fstE f n ≠ 0 then fstE f n else f n
theorem fstE_zero {f : Nat → Int} : ∀ {n : Nat}, fstE f n = 0 ↔ ∀ j, j < n → f j = 0
  | 0 => ⟨fun _ j hj => by omega, fun _ => rfl⟩
  | n + 1 => by
    simp only [fstE]
    by_cases h : fstE f n = 0
    · rw [if_neg (by simpa using h)]
      constructor
      · intro h2 j hj
        rcases Nat.lt_or_ge j n with h3 | h3
        · exact fstE_zero.1 h j h3
        · obtain rfl : j = n := by omega
          exact h2
      · intro h2; exact h2 n (by omega)
    · rw [if_pos h]
      constructor
      · intro h2; exact absurd h2 h
      · intro h2; exact fstE_zero.2 fun j hj => h2 j (by omega)
theorem fstE_at {f : Nat → Int} {i : Nat} (h0 : ∀ j, j < i → f j = 0) (h1 : f i ≠ 0) : ∀ {n : Nat}, i < n → fstE f n = f i
  | 0, h => by omega
  | n + 1, h => by
    simp only [fstE]
    rcases Nat.lt_or_ge i n with h3 | h3
    · rw [fstE_at h0 h1 h3, if_pos h1]
    · obtain rfl : i = n := by omega
      rw [if_neg (by simpa using fstE_zero.2 h0)]
end Go.Proofs.Ytkapjajlkpepmaa
namespace Go.Proofs.Ytkapjajlkpepmaa
open Go Go.Lite
set_option linter.unusedVariables false
set_option linter.unusedSimpArgs false
set_option maxRecDepth 100000
set_option maxHeartbeats 4000000
-- @simp rdi

abbrev dB : ByteArray := R.d Es
def nameCh (x : Int) : Prop := (97 ≤ x ∧ x ≤ 122) ∨ (48 ≤ x ∧ x ≤ 57) ∨ x = 45
def nameOk (s : ByteArray) : Prop := 1 ≤ s.size ∧ s.size ≤ 16 ∧ (97 ≤ sat s 0 ∧ sat s 0 ≤ 122) ∧ ∀ j, j < s.size → nameCh (sat s j)
open Classical in
noncomputable def isName (s : ByteArray) : Bool := decide (nameOk s)
theorem isName_c (s : ByteArray) (hs : Due (s.size ≤ 9223372036854775807)) : TC R Try.prog profile_IsName_f [.str s] [] (fun v X => v = .bool (isName s) ∧ X = []) := by
  dsimp only [Due] at hs
  have yes : nameOk s → true = isName s := fun h => by unfold isName; simp [h]
  have no : ¬ nameOk s → false = isName s := fun h => by unfold isName; simp [h]
  refine tc0 env profile_IsName_s (by rfl) ?_
  dsimp only [profile_IsName_c]
  by_cases hh : 1 ≤ s.size ∧ s.size ≤ 16 ∧ (97 ≤ sat s 0 ∧ sat s 0 ≤ 122)
  · repeat' (first
      | refine GZp_i ?_ ?_ ?_ ?_ ?_ ?_ ?_ ?_
      | with_reducible first | exact BzZq.mk | refine Tw.ret ?_ | refine ImZq.i fun h => ?_ | refine IkZq.i fun hk => ?_)
    refine Tw.loopK [0, 24] (fun i : Nat => i ≤ s.size ∧ ∀ j, j < i → nameCh (sat s j)) (fun i => s.size - i) (fun i => [(25, .int .i64 i)]) (fun _ => []) ⟨0, ⟨by omega, fun j hj => by omega⟩, TWk.fcanon env [] (by rfl) ?_⟩ (fun i hi => ?_)
    · repeat' (first
        | with_reducible first | exact Conj.nil | refine Conj.cons rfl ?_ | refine Conj.same ?_ | refine Conj.ask ?_ ?_
        | ((with_reducible refine Due.mk ?_); (first | with_reducible rfl | omega | assumption | decide | ((try simp only [goS] at *) <;> (try intro h) <;> (try intro h') <;> (try simp only [goS] at *) <;> (try simp only [rdi, Int.toNat_natCast, Nat.add_zero] at *) <;> (try simp only [rng]) <;> (first | assumption | omega)) | (exact due_app0 (by omega)) | (exact due_app (by omega)) | (intros; simp; done) | (intros; simp; omega)))
        | with_reducible refine Due.mk ?_
        | omega)
    repeat' (first
      | refine GZp_i ?_ ?_ ?_ ?_ ?_ ?_ ?_ ?_
      | with_reducible first | exact BzZq.mk | refine Tw.ret ?_ | refine ImZq.i fun h => ?_ | refine IkZq.i fun hk => ?_)
    · refine ⟨rfl, congrArg TV.bool (no fun hk => ?_), rfl⟩
      have := hk.2.2.2 i (by omega)
      unfold nameCh at this
      omega
    · refine ⟨i + 1, ⟨by omega, fun j hj => ?_⟩, by omega, TWk.fcanon env [] (by rfl) ?_⟩
      · by_cases e : j = i
        · subst e; unfold nameCh; omega
        · exact hi.2 j (by omega)
      · repeat' (first
          | refine GZ_i ?_ ?_ ?_ ?_ ?_ ?_ ?_ ?_
          | with_reducible first | exact BzZq.mk | refine Tw.ret ?_ | refine ImZq.i fun h => ?_ | refine IkZq.i fun hk => ?_)
    · exact ⟨rfl, congrArg TV.bool (yes ⟨hh.1, hh.2.1, hh.2.2, fun j hj => hi.2 j (by omega)⟩), rfl⟩
  · have hn : false = isName s := no fun hk => hh ⟨hk.1, hk.2.1, hk.2.2.1⟩
    repeat' (first
      | refine GZp_i ?_ ?_ ?_ ?_ ?_ ?_ ?_ ?_
      | with_reducible first | exact BzZq.mk | refine Tw.ret ?_ | refine ImZq.i fun h => ?_ | refine IkZq.i fun hk => ?_)
    exact ⟨rfl, congrArg TV.bool hn, rfl⟩
noncomputable def nmE (l : List ByteArray) (i : Nat) : Int := if isName (l.getD i dB) = true then (@ite _ (∃ j, j < i ∧ l.getD j dB = l.getD i dB) (Classical.propDecidable _) 7 0) else 6
noncomputable def namesE (l : List ByteArray) : Int := fstE (nmE l) l.length
theorem names_c (l : List ByteArray) (hl : Due (l.length ≤ 9223372036854775807)) (wl : Due (∀ y ∈ l, Ws y)) : TC R Try.prog profile_Names_f [.lst Es l] [] (fun v X => v = .int .i64 (namesE l) ∧ X = []) := by
  dsimp only [Due] at hl wl
  refine tc0 env profile_Names_s (by rfl) ?_
  dsimp only [profile_Names_c]
  repeat' (first
    | refine GZ_i ?_ ?_ ?_ ?_ ?_ ?_ ?_ ?_
    | with_reducible first | exact BzZq.mk | refine Tw.ret ?_ | refine ImZq.i fun h => ?_ | refine IkZq.i fun hk => ?_)
  refine Tw.loopK [0, 7, 8] (fun i : Nat => i ≤ l.length ∧ ∀ k, k < i → nmE l k = 0) (fun i => l.length - i) (fun i => [(9, .int .i64 i)]) (fun _ => []) ⟨0, ⟨by omega, fun k hk => by omega⟩, TWk.fcanon env [] (by rfl) ?_⟩ (fun i hi => ?_)
  · repeat' (first
      | with_reducible first | exact Conj.nil | refine Conj.cons rfl ?_ | refine Conj.same ?_ | refine Conj.ask ?_ ?_
      | ((with_reducible refine Due.mk ?_); (first | with_reducible rfl | omega | assumption | decide | ((try simp only [goS] at *) <;> (try intro h) <;> (try intro h') <;> (try simp only [goS] at *) <;> (try simp only [rdi, Int.toNat_natCast, Nat.add_zero] at *) <;> (try simp only [rng]) <;> (first | assumption | omega)) | (exact due_app0 (by omega)) | (exact due_app (by omega)) | (intros; simp; done) | (intros; simp; omega)))
      | with_reducible refine Due.mk ?_
      | omega)
  obtain ⟨hi, hp⟩ := hi
  rcases Nat.lt_or_ge i l.length with hi2 | hi2
  · have ic := isName_c (l.getD i dB) (wl _ (getD_mem hi2))
    cases hn : isName (l.getD i dB)
    · rw [hn] at ic
      have e : nmE l i = 6 := by unfold nmE; rw [if_neg (by rw [hn]; simp)]
      have ef : namesE l = 6 := by unfold namesE; rw [fstE_at hp (by rw [e]; omega) hi2, e]
      repeat' (first
        | ((with_reducible refine TOps.any ?_); refine TOps.callV env (by rfl) (by rfl) (by rfl) (ic) ?_)
        | refine GZp_i ?_ ?_ ?_ ?_ ?_ ?_ ?_ ?_
        | with_reducible first | exact BzZq.mk | refine Tw.ret ?_ | refine ImZq.i fun h => ?_ | refine IkZq.i fun hk => ?_)
      exact ⟨rfl, by rw [ef], rfl⟩
    · rw [hn] at ic
      repeat' (first
        | ((with_reducible refine TOps.any ?_); refine TOps.callV env (by rfl) (by rfl) (by rfl) (ic) ?_)
        | refine GZp_i ?_ ?_ ?_ ?_ ?_ ?_ ?_ ?_
        | with_reducible first | exact BzZq.mk | refine Tw.ret ?_ | refine ImZq.i fun h => ?_ | refine IkZq.i fun hk => ?_)
      refine Tw.loopK [0, 3, 4, 7, 8, 9, 19, 20] (fun j : Nat => j ≤ i ∧ ∀ k, k < j → l.getD k dB ≠ l.getD i dB) (fun j => i - j) (fun j => [(21, .int .i64 j)]) (fun _ => []) ⟨0, ⟨by omega, fun k hk => by omega⟩, TWk.fcanon env [] (by rfl) ?_⟩ (fun j hj => ?_)
      · repeat' (first
          | with_reducible first | exact Conj.nil | refine Conj.cons rfl ?_ | refine Conj.same ?_ | refine Conj.ask ?_ ?_
          | ((with_reducible refine Due.mk ?_); (first | with_reducible rfl | omega | assumption | decide | ((try simp only [goS] at *) <;> (try intro h) <;> (try intro h') <;> (try simp only [goS] at *) <;> (try simp only [rdi, Int.toNat_natCast, Nat.add_zero] at *) <;> (try simp only [rng]) <;> (first | assumption | omega)) | (exact due_app0 (by omega)) | (exact due_app (by omega)) | (intros; simp; done) | (intros; simp; omega)))
          | with_reducible refine Due.mk ?_
          | omega)
      obtain ⟨hj, hq⟩ := hj
      have et : (List.take i l).length = i := by rw [List.length_take]; omega
      rcases Nat.lt_or_ge j i with hj2 | hj2
      · have eg : (List.take i l).getD j dB = l.getD j dB := by rw [List.getD_eq_getElem?_getD, List.getElem?_take, if_pos hj2, ← List.getD_eq_getElem?_getD]
        repeat' (first
          | refine GZy_i et ?_ ?_ ?_ ?_ ?_ ?_ ?_ ?_
          | with_reducible first | exact BzZq.mk | refine Tw.ret ?_ | refine ImZq.i fun h => ?_ | refine IkZq.i fun hk => ?_)
        · have e : nmE l i = 7 := by unfold nmE; rw [if_pos hn, if_pos ⟨j, hj2, by rw [← eg]; exact h.symm⟩]
          exact ⟨rfl, by unfold namesE; rw [fstE_at hp (by rw [e]; omega) hi2, e], rfl⟩
        · refine ⟨j + 1, ⟨by omega, fun k hk => ?_⟩, by omega, TWk.fcanon env [] (by rfl) ?_⟩
          · by_cases e : k = j
            · subst e; rw [← eg]; exact fun e2 => h e2.symm
            · exact hq k (by omega)
          · repeat' (first
              | refine GZ_i ?_ ?_ ?_ ?_ ?_ ?_ ?_ ?_
              | with_reducible first | exact BzZq.mk | refine Tw.ret ?_ | refine ImZq.i fun h => ?_ | refine IkZq.i fun hk => ?_)
      · obtain rfl : j = i := by omega
        repeat' (first
          | refine GZy_i et ?_ ?_ ?_ ?_ ?_ ?_ ?_ ?_
          | with_reducible first | exact BzZq.mk | refine Tw.ret ?_ | refine ImZq.i fun h => ?_ | refine IkZq.i fun hk => ?_)
        refine ⟨j + 1, ⟨by omega, fun k hk => ?_⟩, by omega, TWk.fcanon env [] (by rfl) ?_⟩
        · by_cases e : k = j
          · subst e
            unfold nmE
            rw [if_pos hn, if_neg]
            rintro ⟨x, hx, hx2⟩
            exact hq x hx hx2
          · exact hp k (by omega)
        · repeat' (first
            | refine GZ_i ?_ ?_ ?_ ?_ ?_ ?_ ?_ ?_
            | with_reducible first | exact BzZq.mk | refine Tw.ret ?_ | refine ImZq.i fun h => ?_ | refine IkZq.i fun hk => ?_)
  · obtain rfl : i = l.length := by omega
    repeat' (first
      | refine GZp_i ?_ ?_ ?_ ?_ ?_ ?_ ?_ ?_
      | with_reducible first | exact BzZq.mk | refine Tw.ret ?_ | refine ImZq.i fun h => ?_ | refine IkZq.i fun hk => ?_)
    exact ⟨rfl, by rw [show namesE l = 0 from fstE_zero.2 hp], rfl⟩
end Go.Proofs.Ytkapjajlkpepmaa
namespace Go.Proofs.Ytkapjajlkpepmaa
open Go Go.Lite
set_option linter.unusedVariables false
set_option linter.unusedSimpArgs false
set_option maxRecDepth 100000
set_option maxHeartbeats 4000000

-- @simp rd2i


/-- What Check says from point i on. -/
def scan (c : List (Int × Int)) (i : Nat) : Int :=
  if h : i < c.length then
    if (c.getD i (0, 0)).1 < 0 ∨ 65280 < (c.getD i (0, 0)).1 ∨ (c.getD i (0, 0)).2 < 0 ∨ 65280 < (c.getD i (0, 0)).2 then 3
    else if 0 < i ∧ ((c.getD i (0, 0)).1 ≤ (c.getD (i - 1) (0, 0)).1 ∨ (c.getD i (0, 0)).2 < (c.getD (i - 1) (0, 0)).2) then 18
    else scan c (i + 1)
  else if (c.getD 0 (0, 0)).1 ≠ 0 ∨ (c.getD (c.length - 1) (0, 0)).1 ≠ 65280 then 4 else 0
  termination_by c.length - i
def check (c : List (Int × Int)) : Int := if 33 < c.length then 2 else if c.length < 2 then 1 else scan c 0

theorem check_c (c : List (Int × Int)) : TC R Try.prog curve_Check_f [.agg [.lst E2i c]] [] (fun v X => v = .int .i64 (check c) ∧ X = []) := by
  refine tc0 env curve_Check_s (by rfl) ?_
  dsimp only [curve_Check_c]
  repeat' (first
    | refine GZ_2i ?_ ?_ ?_ ?_ ?_ ?_ ?_ ?_
    | with_reducible first | exact BzZq.mk | refine Tw.ret ?_ | refine ImZq.i fun h => ?_ | refine IkZq.i fun hk => ?_)
  · exact ⟨rfl, by rw [check, if_pos (by omega)], rfl⟩
  · exact ⟨rfl, by rw [check, if_neg (by omega), if_pos (by omega)], rfl⟩
  have hc : check c = scan c 0 := by rw [check, if_neg (by omega), if_neg (by omega)]
  refine Tw.loopK [1, 16, 17] (fun i : Nat => i ≤ c.length ∧ scan c 0 = scan c i) (fun i => c.length - i) (fun i => [(18, .int .i64 i)]) (fun _ => [some (.cells [.lst E2i c])]) ⟨0, ⟨by omega, rfl⟩, TWk.fcanon env [some 0] (by rfl) ?_⟩ (fun i hi => ?_)
  repeat' (first
    | refine ⟨i+1, ⟨?_, ?_⟩, ?_, TWk.fcanon env [some 0] (by rfl) ?_⟩
    | with_reducible first | refine Tw.seq ?_ | refine Tw.reg ?_ | refine Tw.block ?_ | refine Tw.scope ?_ | refine Tw.skip ?_ | refine Tw.exit ?_ | refine Tw.ret ?_ | refine seqN ?_ | refine seqR ?_ | refine seqE ?_ | refine rndN ?_ | refine blkN ?_ | refine blkR ?_ | refine blkE1 ?_ | refine blkE0 (by kernel_rfl) ?_ | refine scpN ?_ | refine scpR ?_ | refine scpE ?_ | refine TOps.nil ?_ | exact Conj.nil | refine Conj.cons rfl ?_ | refine Conj.same ?_ | refine Conj.ask ?_ ?_ | refine Tw.regd env ?_ | refine TDr.nil ⟨by kernel_rfl, ?_⟩
    | ((with_reducible refine TOps.any ?_); first | refine TOps.frunP env (by rfl) (by rfl) ?_ ?_ | (refine TOps.known (by rfl) ?_; refine TOps.strip env (by rfl) (by rfl) ?_ ?_) | refine TOps.on (by rfl) (by rfl) ?_)
    | ((with_reducible refine TDr.any ?_); refine TDr.frunP env (by rfl) (by rfl) ?_ ?_)
    | ((with_reducible refine Tw.any ?_); first | refine Tw.condT (by rfl) ?_ | refine Tw.condF (by rfl) ?_)
    | ((first | ((with_reducible refine TOps.any ?_); (fail_if_success refine TOps.known (by rfl) ?_); refine TOps.ask (by rfl) (fun h => ?_) (fun h => ?_)) | ((with_reducible refine TDr.any ?_); (fail_if_success refine TDr.known (by first | rfl | assumption) ?_); refine TDr.ask (by rfl) (fun h hk => ?_) (fun h => ?_)) | ((with_reducible refine Tw.any ?_); refine Tw.cond (by rfl) (fun h => ?_) (fun h => ?_))) <;> (try simp only [goS] at h) <;> (try simp only [rd2i, Int.toNat_natCast, Nat.add_zero] at h))
    | ((with_reducible refine tret.any ?_); first | refine tret.ok (by rfl) ?_ | refine tret.okN (by rfl) ?_)
    | ((with_reducible refine Due.mk ?_); (first | with_reducible rfl | omega | assumption | decide | ((try simp only [goS] at *) <;> (try intro h) <;> (try intro h') <;> (try simp only [goS] at *) <;> (try simp only [rd2i, Int.toNat_natCast, Nat.add_zero] at *) <;> (try simp only [rng]) <;> (first | assumption | omega)) | (exact due_app0 (by omega)) | (exact due_app (by omega)) | (intros; simp; done) | (intros; simp; omega)))
    | with_reducible refine Due.mk ?_
    | omega)
  · exact ⟨rfl, by rw [hc, hi.2, scan, dif_pos (by omega), if_pos (by omega)], rfl⟩
  · rw [show ((i : Int) - 1).toNat = i - 1 by omega] at h
    exact ⟨rfl, by rw [hc, hi.2, scan, dif_pos (by omega), if_neg (by omega), if_pos (by omega)], rfl⟩
  · rw [show ((i : Int) - 1).toNat = i - 1 by omega] at h
    rw [hi.2, scan, dif_pos (by omega), if_neg (by omega), if_neg (by omega)]
  repeat' (first
    | refine GZ_2i ?_ ?_ ?_ ?_ ?_ ?_ ?_ ?_
    | with_reducible first | exact BzZq.mk | refine Tw.ret ?_ | refine ImZq.i fun h => ?_ | refine IkZq.i fun hk => ?_)
  · rw [show ((c.length : Int) - 1).toNat = c.length - 1 by omega] at h
    exact ⟨rfl, by rw [hc, hi.2, scan, dif_neg (by omega), if_pos (by omega)], rfl⟩
  · rw [show ((c.length : Int) - 1).toNat = c.length - 1 by omega] at h
    exact ⟨rfl, by rw [hc, hi.2, scan, dif_neg (by omega), if_neg (by omega)], rfl⟩

/-- What Check answers 0 to. -/
structure Valid (c : List (Int × Int)) : Prop where
  len : 2 ≤ c.length ∧ c.length ≤ 33
  rg : ∀ i, i < c.length → 0 ≤ (c.getD i (0, 0)).1 ∧ (c.getD i (0, 0)).1 ≤ 65280 ∧ 0 ≤ (c.getD i (0, 0)).2 ∧ (c.getD i (0, 0)).2 ≤ 65280
  ord : ∀ i, i + 1 < c.length → (c.getD i (0, 0)).1 < (c.getD (i + 1) (0, 0)).1 ∧ (c.getD i (0, 0)).2 ≤ (c.getD (i + 1) (0, 0)).2
  first : (c.getD 0 (0, 0)).1 = 0
  last : (c.getD (c.length - 1) (0, 0)).1 = 65280

theorem scan_ok (c : List (Int × Int)) (n : Nat) : ∀ i, c.length - i = n → scan c i = 0 → (∀ j, i ≤ j → j < c.length → 0 ≤ (c.getD j (0, 0)).1 ∧ (c.getD j (0, 0)).1 ≤ 65280 ∧ 0 ≤ (c.getD j (0, 0)).2 ∧ (c.getD j (0, 0)).2 ≤ 65280) ∧
    (∀ j, i ≤ j → 0 < j → j < c.length → (c.getD (j - 1) (0, 0)).1 < (c.getD j (0, 0)).1 ∧ (c.getD (j - 1) (0, 0)).2 ≤ (c.getD j (0, 0)).2) ∧ (c.getD 0 (0, 0)).1 = 0 ∧ (c.getD (c.length - 1) (0, 0)).1 = 65280 := by
  induction n with
  | zero =>
    intro i hn h
    rw [scan, dif_neg (by omega)] at h
    split at h
    · cases h
    · exact ⟨fun j h1 h2 => by omega, fun j h1 h2 h3 => by omega, by omega, by omega⟩
  | succ n ih =>
    intro i hn h
    rw [scan, dif_pos (by omega)] at h
    split at h
    · cases h
    · rename_i h1
      split at h
      · cases h
      · rename_i h2
        obtain ⟨k1, k2, k3, k4⟩ := ih (i + 1) (by omega) h
        refine ⟨fun j hj hl => ?_, fun j hj h0 hl => ?_, k3, k4⟩
        · by_cases e : j = i
          · subst e; omega
          · exact k1 j (by omega) hl
        · by_cases e : j = i
          · subst e; omega
          · exact k2 j (by omega) h0 hl

theorem check_ok {c : List (Int × Int)} (h : check c = 0) : Valid c := by
  unfold check at h
  split at h
  · cases h
  · split at h
    · cases h
    · obtain ⟨k1, k2, k3, k4⟩ := scan_ok c _ 0 rfl h
      exact ⟨by omega, fun i hi => k1 i (by omega) hi, fun i hi => k2 (i + 1) (by omega) (by omega) hi, k3, k4⟩
end Go.Proofs.Ytkapjajlkpepmaa
namespace Go.Proofs.Ytkapjajlkpepmaa
open Go Go.Lite
set_option linter.unusedVariables false
set_option linter.unusedSimpArgs false
set_option maxRecDepth 100000
set_option maxHeartbeats 4000000
-- @simp rd2i

/-- The last point up to n that is not right of x. -/
def seg (c : List (Int × Int)) (x : Int) : Nat → Nat
  | 0 => 0
  | n + 1 => if (c.getD (n + 1) (0, 0)).1 ≤ x then n + 1 else seg c x n
def rawAt (c : List (Int × Int)) (x : Int) (i : Nat) : Int := (c.getD i (0, 0)).2 + near (((c.getD (i + 1) (0, 0)).2 - (c.getD i (0, 0)).2) * (x - (c.getD i (0, 0)).1)) ((c.getD (i + 1) (0, 0)).1 - (c.getD i (0, 0)).1)
def raw (c : List (Int × Int)) (x : Int) : Int := rawAt c x (seg c x (c.length - 2))

theorem Valid.mono {c : List (Int × Int)} (v : Valid c) : ∀ (n i : Nat), i + n < c.length → (c.getD i (0, 0)).1 + n ≤ (c.getD (i + n) (0, 0)).1 ∧ (c.getD i (0, 0)).2 ≤ (c.getD (i + n) (0, 0)).2 := by
  intro n
  induction n with
  | zero => intro i h; simp
  | succ n ih =>
    intro i h
    have h1 := ih i (by omega)
    have h2 := v.ord (i + n) (by omega)
    rw [show i + (n + 1) = i + n + 1 by omega]
    omega

theorem seg_is {c : List (Int × Int)} (v : Valid c) {x : Int} {i : Nat} (h1 : (c.getD i (0, 0)).1 ≤ x) : ∀ n, i ≤ n → n < c.length → (i = n ∨ x < (c.getD (i + 1) (0, 0)).1) → seg c x n = i := by
  intro n
  induction n with
  | zero => intro h2 h3 h4; simp only [seg]; omega
  | succ n ih =>
    intro h2 h3 h4
    simp only [seg]
    by_cases e : i = n + 1
    · subst e; rw [if_pos h1]
    · have h5 : x < (c.getD (i + 1) (0, 0)).1 := h4.resolve_left e
      have := v.mono (n - i) (i + 1) (by omega)
      rw [show i + 1 + (n - i) = n + 1 by omega] at this
      rw [if_neg (by omega)]
      exact ih (by omega) (by omega) (.inr h5)

theorem prod_bd {a b : Int} (ha : 0 ≤ a ∧ a ≤ 65280) (hb : 0 ≤ b ∧ b ≤ 65280) : 0 ≤ a * b ∧ a * b ≤ 4261478400 :=
  ⟨Int.mul_nonneg ha.1 hb.1, Int.le_trans (Int.mul_le_mul ha.2 hb.2 hb.1 (by omega)) (by omega)⟩
theorem near_bd {n d k : Int} (hd : 0 < d) (hn : 0 ≤ n) (h : n ≤ k * d) : 0 ≤ near n d ∧ near n d ≤ k := by
  unfold near
  refine ⟨Int.ediv_nonneg (by omega) (by omega), ?_⟩
  have : 2 * n + d < (k + 1) * (2 * d) := by
    have : (k + 1) * (2 * d) = 2 * (k * d) + 2 * d := by rw [Int.add_mul, Int.mul_left_comm]; omega
    omega
  have := Int.ediv_lt_of_lt_mul (show 0 < 2 * d by omega) this
  omega

theorem raw_c (c : List (Int × Int)) (x : Int) (v : Valid c) (hx : Due (0 ≤ x ∧ x ≤ 65280)) : TC R Try.prog curve_Raw_f [.agg [.lst E2i c], .int .i64 x] [] (fun v X => v = .int .i64 (raw c x) ∧ X = []) := by
  dsimp only [Due] at hx
  have hl := v.len
  refine tc0 env curve_Raw_s (by rfl) ?_
  dsimp only [curve_Raw_c]
  repeat' (first
    | refine GZ_2i ?_ ?_ ?_ ?_ ?_ ?_ ?_ ?_
    | with_reducible first | exact BzZq.mk | refine Tw.ret ?_ | refine ImZq.i fun h => ?_ | refine IkZq.i fun hk => ?_)
  refine Tw.loopK [1, 2] (fun p : Nat × Nat => p.1 < p.2 ∧ p.2 < c.length ∧ (c.getD p.1 (0, 0)).1 ≤ x ∧ x ≤ (c.getD p.2 (0, 0)).1 ∧ (p.2 = c.length - 1 ∨ x < (c.getD p.2 (0, 0)).1)) (fun p => p.2 - p.1) (fun p => [(5, .int .i64 p.1), (6, .int .i64 p.2)]) (fun _ => [some (.cells [.lst E2i c])]) ⟨(0, c.length - 1), ?_, TWk.fcanon env [some 0] (by rfl) ?_⟩ (fun p hp => ?_)
  · have := v.first; have := v.last; dsimp only; omega
  · repeat' (first
      | with_reducible first | exact Conj.nil | refine Conj.cons rfl ?_ | refine Conj.same ?_ | refine Conj.ask ?_ ?_
      | ((with_reducible refine Due.mk ?_); (first | with_reducible rfl | omega | assumption | decide | ((try simp only [goS] at *) <;> (try intro h) <;> (try intro h') <;> (try simp only [goS] at *) <;> (try simp only [rd2i, Int.toNat_natCast, Nat.add_zero] at *) <;> (try simp only [rng]) <;> (first | assumption | omega)) | (exact due_app0 (by omega)) | (exact due_app (by omega)) | (intros; simp; done) | (intros; simp; omega)))
      | with_reducible refine Due.mk ?_
      | omega)
  obtain ⟨l, u⟩ := p
  dsimp only at hp ⊢
  have hq : quo ((l : Int) + u) 2 = ((l + u) / 2 : Nat) := by rw [quo_nn (by omega)]; omega
  have b1 := v.rg l (by omega)
  have b2 := v.rg u (by omega)
  have b3 := v.mono (u - l) l (by omega)
  rw [show l + (u - l) = u by omega] at b3
  have b4 := prod_bd (a := (c.getD u (0, 0)).2 - (c.getD l (0, 0)).2) (b := x - (c.getD l (0, 0)).1) (by omega) (by omega)
  have b5 := near_bd (n := ((c.getD u (0, 0)).2 - (c.getD l (0, 0)).2) * (x - (c.getD l (0, 0)).1)) (d := (c.getD u (0, 0)).1 - (c.getD l (0, 0)).1) (k := (c.getD u (0, 0)).2 - (c.getD l (0, 0)).2) (by omega) (by omega) (Int.mul_le_mul_of_nonneg_left (by omega) (by omega))
  repeat' (first
    | ((with_reducible refine TDr.any ?_); refine TDr.callE env (by first | rfl | assumption) (by rfl) (by rfl) ?_ (nearest_c _ _ ?_) (by rfl) (by rfl) ?_)
    | refine GZx_2i hq ?_ ?_ ?_ ?_ ?_ ?_ ?_ ?_
    | with_reducible first | exact BzZq.mk | refine Tw.ret ?_ | refine ImZq.i fun h => ?_ | refine IkZq.i fun hk => ?_)
  · refine ⟨((l + u) / 2, u), ?_, ?_, TWk.fcanon env [some 0] (by rfl) ?_⟩
    · dsimp only; omega
    · dsimp only; omega
    · repeat' (first
        | refine GZx_2i hq ?_ ?_ ?_ ?_ ?_ ?_ ?_ ?_
        | with_reducible first | exact BzZq.mk | refine Tw.ret ?_ | refine ImZq.i fun h => ?_ | refine IkZq.i fun hk => ?_)
  · refine ⟨(l, (l + u) / 2), ?_, ?_, TWk.fcanon env [some 0] (by rfl) ?_⟩
    · dsimp only; omega
    · dsimp only; omega
    · repeat' (first
        | refine GZx_2i hq ?_ ?_ ?_ ?_ ?_ ?_ ?_ ?_
        | with_reducible first | exact BzZq.mk | refine Tw.ret ?_ | refine ImZq.i fun h => ?_ | refine IkZq.i fun hk => ?_)
  · obtain rfl : u = l + 1 := by omega
    refine ⟨rfl, ?_, rfl⟩
    simp only [Int.toNat_natCast, rd2i]
    rw [raw, seg_is v (i := l) (by omega) _ (by omega) (by omega) (by omega)]
    rfl
end Go.Proofs.Ytkapjajlkpepmaa
namespace Go.Proofs.Ytkapjajlkpepmaa
open Go Go.Lite
set_option linter.unusedVariables false
set_option linter.unusedSimpArgs false
set_option maxRecDepth 100000
set_option maxHeartbeats 4000000

theorem sq_le {a b : Int} (h : 0 ≤ a) (h2 : a ≤ b) : a * a ≤ b * b := Int.mul_le_mul h2 h2 h (by omega)
theorem sq_bd {x k : Int} (h : -k ≤ x ∧ x ≤ k) : 0 ≤ x * x ∧ x * x ≤ k * k := by
  rcases Int.le_total 0 x with h' | h'
  · exact ⟨Int.mul_nonneg h' h', sq_le h' h.2⟩
  · have := sq_le (a := -x) (b := k) (by omega) (by omega)
    rw [Int.neg_mul_neg] at this
    exact ⟨by rw [← Int.neg_mul_neg]; exact Int.mul_nonneg (by omega) (by omega), this⟩

end Go.Proofs.Ytkapjajlkpepmaa
