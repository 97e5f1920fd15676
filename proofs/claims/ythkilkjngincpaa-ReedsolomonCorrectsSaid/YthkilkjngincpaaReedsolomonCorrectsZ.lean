/- The law ReedsolomonCorrects: a word is found again. -/
import Derived.Test.YthkilkjngincpaaRs1
import Derived.Test.YthkilkjngincpaaRsG
import Derived.Test.YthkilkjngincpaaRs4
import Derived.Test.YthkilkjngincpaaMtx5
import Derived.Test.YthkilkjngincpaaRBytes
import Derived.Test.YthkilkjngincpaaRMod
import Derived.Test.YthkilkjngincpaaReedsolomonW
import Derived.Test.YthkilkjngincpaaXReedsolomonCorrects0
import Derived.Test.YthkilkjngincpaaGo
namespace Go.Proofs.Ythkilkjngincpaa
open Go Go.Lite
set_option linter.unusedVariables false
set_option linter.unusedSimpArgs false
set_option maxRecDepth 100000
set_option maxHeartbeats 4000000
-- @simp rdi rdy rdo

theorem encode_e (l : List Int) (t : Nat) (hl : Due (l.length = 0)) (ht : Due (1 ≤ t ∧ t ≤ 64)) : TC R Try.prog reedsolomon_Encode_f [.lst Ey l, .int .i64 t] [] (fun v X => v = .tup [.nils, .int .i64 1] ∧ X = []) := by
  dsimp only [Due] at hl ht
  refine tc0 env reedsolomon_Encode_s (by rfl) ?_
  dsimp only [reedsolomon_Encode_c]
  repeat' (first
    | refine GZy_i_y_o hl ?_ ?_ ?_ ?_ ?_ ?_ ?_ ?_
    | with_reducible first | exact BzZq.mk | refine Tw.ret ?_ | refine ImZq.i fun h => ?_ | refine IkZq.i fun hk => ?_)
  exact ⟨rfl, rfl, rfl⟩
structure DS where
  i : Nat
  rho : Nat
  k : Nat
  pl : Nat → Nat
  used : Nat → Bool
  wr : Nat → BitVec 8
theorem ReedsolomonCorrects_law (l1 : List Int) (c : Int) (l2 l3 : List Int) (d : Int) (w1 : l1.length ≤ 9223372036854775807 ∧ ∀ y ∈ l1, Wy y) (rc : rng .i64 c) (w2 : l2.length ≤ 9223372036854775807 ∧ ∀ y ∈ l2, Wi y) (w3 : l3.length ≤ 9223372036854775807 ∧ ∀ y ∈ l3, Wi y) (rd : rng .i64 d) :
    TC R Try.prog K2_ReedsolomonCorrects_f [.lst Ey l1, .int .i64 c, .lst Ei l2, .lst Ei l3, .int .i64 d] [] (fun v X => v = .bool true ∧ X = []) := by
  simp only [rng] at rc rd
  obtain ⟨w1, v1⟩ := w1
  obtain ⟨w2, v2⟩ := w2
  obtain ⟨w3, v3⟩ := w3
  obtain ⟨n, hn⟩ : ∃ n : Nat, min (l1.length : Int) 180 = n := ⟨(min (l1.length : Int) 180).toNat, by omega⟩
  have m1 := rMod_c c 64 (by unfold Due; omega)
  obtain ⟨t, htt⟩ : ∃ t : Nat, 1 + c % 64 = t := ⟨(1 + c % 64).toNat, by omega⟩
  have tb : 1 ≤ t ∧ t ≤ 64 := by omega
  have b1 : ∀ i, i < n → 0 ≤ l1.getD i 0 ∧ l1.getD i 0 ≤ 255 := fun i hi => by have := v1 _ (getD_mem (d := 0) (show i < l1.length by omega)); simpa [Wy, rng] using this
  have e1 := bits_list (l := l1) (n := n) (by omega) b1
  have tl : (l1.take n).length = n := by rw [List.length_take]; omega
  refine tc0 env K2_ReedsolomonCorrects_s (by rfl) ?_
  dsimp only [K2_ReedsolomonCorrects_c]
  repeat' (first
    | ((with_reducible refine TOps.any ?_); refine TOps.callV env (by rfl) (by rfl) (by rfl) (reedsolomonWorks_c) ?_)
    | ((with_reducible refine TDr.any ?_); refine TDr.callE env (by first | rfl | assumption) (by rfl) (by rfl) ?_ (m1) (by rfl) (by rfl) ?_)
    | refine GZy_i_y_o hn ?_ ?_ ?_ ?_ ?_ ?_ ?_ ?_
    | with_reducible first | exact BzZq.mk | refine Tw.ret ?_ | refine ImZq.i fun h => ?_ | refine IkZq.i fun hk => ?_)
  rw [hn, htt]
  by_cases h0 : n = 0
  · have ee := encode_e (l1.take n) t (by unfold Due; omega) tb
    subst h0
    repeat' (first
      | ((with_reducible refine TOps.any ?_); refine TOps.callV env (by rfl) (by rfl) (by rfl) (ee) ?_)
      | refine GZy_i_y_o tl ?_ ?_ ?_ ?_ ?_ ?_ ?_ ?_
      | with_reducible first | exact BzZq.mk | refine Tw.ret ?_ | refine ImZq.i fun h => ?_ | refine IkZq.i fun hk => ?_)
    exact ⟨rfl, rfl, rfl⟩
  generalize (fun k => BitVec.ofInt 8 (l1.getD k 0)) = f at *
  have c1 := encode_c f n t (by unfold Due; omega)
  have o1 : ∀ i, i < t → hor (rt i) (word rt t n f) (n + t) = 0#8 := fun i hi => word_ok hi
  have wf : ∀ i, i < n → word rt t n f i = f i := fun i hi => by unfold word; rw [if_pos hi]
  generalize word rt t n f = W at *
  rw [← e1] at c1
  obtain ⟨N, hN⟩ : ∃ N : Nat, n + t = N := ⟨_, rfl⟩
  rw [hN] at c1 o1
  have va := valid_c W N t (by unfold Due; omega)
  rw [decide_eq_true o1] at va
  have Nl : ∀ g, (btab N g).length = N := fun _ => btab_len
  have sl : List.take ((List.take (n : Int).toNat l1).length : Int).toNat (btab N W) = List.take (n : Int).toNat l1 := by
    simp only [Int.toNat_natCast]
    rw [tl, e1]
    refine is_tab 0 (by rw [List.length_take, Nl]; omega) fun i hi => ?_
    rw [List.getD_eq_getElem?_getD, List.getElem?_take, if_pos hi, ← List.getD_eq_getElem?_getD, btab_get (by omega), wf i hi]
  have tb1 : ∀ i, i < (List.take (n : Int).toNat l1).length → 0 ≤ (List.take (n : Int).toNat l1).getD i 0 ∧ (List.take (n : Int).toNat l1).getD i 0 ≤ 255 := by
    rw [Int.toNat_natCast, e1, btab_len]
    intro i hi
    rw [btab_get hi]; exact by8_bd _
  have sb := sameBytes_c (List.take (n : Int).toNat l1) (List.take (n : Int).toNat l1) tb1 tb1
  rw [decide_eq_true rfl] at sb
  have sb2 : TC R Try.prog R2_SameBytes_f [.lst Ey (List.take ((List.take (n : Int).toNat l1).length : Int).toNat (btab N W)), .lst Ey (List.take (n : Int).toNat l1)] [] (fun v X => v = .bool true ∧ X = []) := by rw [sl]; exact sb
  have m2 := rMod_c d ((t : Int) + 1) (by unfold Due; omega)
  obtain ⟨E, hE⟩ : ∃ E : Nat, d % ((t : Int) + 1) = E := ⟨(d % ((t : Int) + 1)).toNat, by have := Int.emod_nonneg d (show (t : Int) + 1 ≠ 0 by omega); omega⟩
  have hEt : E ≤ t := by have := Int.emod_lt_of_pos d (show (0 : Int) < (t : Int) + 1 by omega); omega
  rw [hE] at m2
  obtain ⟨err, herr⟩ : ∃ err : Nat, err = (t - E) / 2 := ⟨_, rfl⟩
  have q2 : quo ((t : Int) - (E : Int)) 2 = (err : Int) := by rw [show (t : Int) - (E : Int) = ((t - E : Nat) : Int) by omega, quo_nn (by omega)]; omega
  have tlb : ∀ g : Nat → Bool, (tab N g).length = N := fun _ => tab_len
  have tlp : ∀ (m : Nat) (g : Nat → Nat), (tab m fun k => ((g k : Nat) : Int)).length = m := fun _ _ => tab_len
  repeat' (first
    | ((with_reducible refine TOps.any ?_); refine TOps.callV env (by rfl) (by rfl) (by rfl) (c1) ?_)
    | ((with_reducible refine TOps.any ?_); refine TOps.callV env (by rfl) (by rfl) (by rfl) (va) ?_)
    | ((with_reducible refine TOps.any ?_); refine TOps.callV env (by rfl) (by rfl) (by rfl) (sb2) ?_)
    | ((with_reducible refine TOps.any ?_); refine TOps.callV env (by rfl) (by rfl) (by rfl) (m2) ?_)
    | refine GZy_i_y_o (And.intro tl (And.intro Nl q2)) ?_ ?_ ?_ ?_ ?_ ?_ ?_ ?_
    | with_reducible first | exact BzZq.mk | refine Tw.ret ?_ | refine ImZq.i fun h => ?_ | refine IkZq.i fun hk => ?_)
  rw [Nl, q2]
  refine cutB [1, 11, 18] (fun q : DS => Drw N E err q.rho q.k q.pl q.used W q.wr) (fun q => [(15, .sla 1 0 0 N), (16, .sla 1 1 0 q.rho)]) (fun q => [some (.arr Ey (btab N q.wr)), some (.arr Ei (tab q.rho fun k => ((q.pl k : Nat) : Int)))]) ?_ (fun q hq => ?_)
  · refine Tw.loopK [1, 2, 3, 4, 11, 18, 101, 102] (fun q : DS => q.i ≤ l2.length ∧ Drw N E err q.rho q.k q.pl q.used W q.wr) (fun q => l2.length - q.i)
      (fun q => [(103, .int .i64 q.i), (15, .sla 1 0 0 N), (19, .sla 1 1 0 N), (16, .sla 1 2 0 q.rho), (17, .int .i64 ((err : Int) - q.k))])
      (fun q => [some (.arr Ey (btab N q.wr)), some (.arr Eo (tab N q.used)), some (.arr Ei (tab q.rho fun k => ((q.pl k : Nat) : Int)))])
      ⟨⟨0, 0, 0, fun _ => 0, fun _ => false, W⟩, ⟨Nat.zero_le _, Drw.zero N E err W⟩, TWk.fcanon env [some 1, some 2, none] (by rfl) ?_⟩ (fun q hq => ?_)
    · have z1 : cut ([] : List Int) 0 0 ++ btab N W = btab N W := rfl
      have z2 : (tab N fun _ => false) = List.replicate N false := tab_repl.symm
      have z3 : (err : Int) - ((0 : Nat) : Int) = err := by omega
      repeat' (first
        | exact z1
        | exact z1.symm
        | exact z2
        | exact z2.symm
        | exact z3
        | exact z3.symm
        | with_reducible first | exact Conj.nil | refine Conj.cons rfl ?_ | refine Conj.same ?_ | refine Conj.ask ?_ ?_
        | ((with_reducible refine Due.mk ?_); (first | with_reducible rfl | omega | assumption | decide | ((try simp only [goS] at *) <;> (try intro h) <;> (try intro h') <;> (try simp only [goS] at *) <;> (try simp only [rdi, rdy, rdo, Int.toNat_natCast, Nat.add_zero] at *) <;> (try simp only [rng]) <;> (first | assumption | omega)) | (exact due_app0 (by omega)) | (exact due_app (by omega)) | (intros; simp; done) | (intros; simp; omega)))
        | with_reducible refine Due.mk ?_
        | omega)
    obtain ⟨i, rho, k, pl, used, wr⟩ := q
    dsimp only at hq ⊢
    obtain ⟨hi, hD⟩ := hq
    have hk := hD.k1
    have hr := hD.r1
    rcases Nat.lt_or_ge i l2.length with hi2 | hi2
    · have p1 : rng .i64 (l2.getD i 0) := by have := v2 _ (getD_mem (d := 0) hi2); simpa [Wi] using this
      simp only [rng] at p1
      have m3 := rMod_c (l2.getD i 0) N (by unfold Due; omega)
      obtain ⟨a, ha⟩ : ∃ a : Nat, l2.getD i 0 % (N : Int) = a := ⟨(l2.getD i 0 % (N : Int)).toNat, by have := Int.emod_nonneg (l2.getD i 0) (show (N : Int) ≠ 0 by omega); omega⟩
      have haN : a < N := by have := Int.emod_lt_of_pos (l2.getD i 0) (show (0 : Int) < (N : Int) by omega); omega
      rw [ha] at m3
      have gu : (tab N used).getD a false = used a := tab_get haN
      have us : (tab N used).set a true = tab N (upd used a true) := by
        refine is_tab false (by rw [List.length_set, tab_len]) fun j hj => ?_
        unfold upd
        by_cases e : a = j
        · subst e; rw [getD_set_eq (by rw [tab_len]; exact haN), if_pos rfl]
        · rw [getD_set_ne e, tab_get hj, if_neg (fun h => e h.symm)]
      have ap : cut (tab rho fun k => ((pl k : Nat) : Int)) 0 rho ++ cut [(a : Int)] 0 1 = tab (rho + 1) fun k => ((upd pl rho a k : Nat) : Int) := by
        rw [show cut (tab rho fun k => ((pl k : Nat) : Int)) 0 rho = tab rho fun k => ((pl k : Nat) : Int) from cut_tab, cut_one, tab_succ]
        congr 1
        · exact tab_congr fun j hj => by unfold upd; rw [if_neg (by omega)]
        · unfold upd; rw [if_pos rfl]
      have gw : (btab N wr).getD a 0 = by8 (wr a) := btab_get haN
      have bw := by8_bd (wr a)
      have same : btab N (upd wr a (wr a)) = btab N wr := btab_congr fun j _ => by
        unfold upd; split
        · rename_i e; rw [e]
        · rfl
      have m4 : ∀ y : Int, -9223372036854775808 ≤ y ∧ y ≤ 9223372036854775807 → TC R Try.prog R2_Mod_f [.int .i64 y, .int .i64 256] [] (fun v X => v = .int .i64 (y % 256) ∧ X = []) := fun y hy => rMod_c y 256 (by unfold Due; omega)
      obtain ⟨v, hv⟩ : ∃ v : BitVec 8, by8 v = l3.getD i 0 % 256 % 256 := ⟨BitVec.ofInt 8 (l3.getD i 0 % 256 % 256), by8_ofInt (by omega)⟩
      have ws : (btab N wr).set (a + 0) (bxor ((btab N wr).getD (a + 0) 0) (l3.getD i 0 % 256 % 256)) = btab N (upd wr a (wr a ^^^ v)) := by
        rw [← hv, Nat.add_zero, gw, by8_xor]
        exact btab_set (by unfold upd; rw [if_pos rfl]) fun j _ hj => by unfold upd; rw [if_neg hj]
      repeat' (first
        | refine GZy_i_y_o Nl ?_ ?_ ?_ ?_ ?_ ?_ ?_ ?_
        | with_reducible first | exact BzZq.mk | refine Tw.ret ?_ | refine ImZq.i fun h => ?_ | refine IkZq.i fun hk => ?_)
      rw [Nl]
      cases hu : used a with
      | true =>
        rw [hu] at gu
        repeat' (first
          | ((with_reducible refine TOps.any ?_); refine TOps.callV env (by rfl) (by rfl) (by rfl) (m3) ?_)
          | refine GZy_i_y_o (And.intro tlb (And.intro gu Nl)) ?_ ?_ ?_ ?_ ?_ ?_ ?_ ?_
          | with_reducible first | exact BzZq.mk | refine Tw.ret ?_ | refine ImZq.i fun h => ?_ | refine IkZq.i fun hk => ?_)
        refine ⟨⟨i + 1, rho, k, pl, used, wr⟩, ⟨by dsimp only; omega, hD⟩, by dsimp only; omega, TWk.fcanon env [some 0, some 1, some 2] (by rfl) ?_⟩
        repeat' (first
          | with_reducible first | exact Conj.nil | refine Conj.cons rfl ?_ | refine Conj.same ?_ | refine Conj.ask ?_ ?_
          | ((with_reducible refine Due.mk ?_); (first | with_reducible rfl | omega | assumption | decide | ((try simp only [goS] at *) <;> (try intro h) <;> (try intro h') <;> (try simp only [goS] at *) <;> (try simp only [rdi, rdy, rdo, Int.toNat_natCast, Nat.add_zero] at *) <;> (try simp only [rng]) <;> (first | assumption | omega)) | (exact due_app0 (by omega)) | (exact due_app (by omega)) | (intros; simp; done) | (intros; simp; omega)))
          | with_reducible refine Due.mk ?_
          | omega)
      | false =>
        rw [hu] at gu
        by_cases hE2 : rho < E
        · by_cases h3 : i < l3.length
          · have p3 : rng .i64 (l3.getD i 0) := by have := v3 _ (getD_mem (d := 0) h3); simpa [Wi] using this
            simp only [rng] at p3
            have m5 := m4 _ p3
            have nx := hD.lost hE2 haN hu (wr a ^^^ v)
            repeat' (first
              | ((with_reducible refine TOps.any ?_); refine TOps.callV env (by rfl) (by rfl) (by rfl) (m3) ?_)
              | ((with_reducible refine TDr.any ?_); refine TDr.callE env (by first | rfl | assumption) (by rfl) (by rfl) ?_ (m5) (by rfl) (by rfl) ?_)
              | refine GZy_i_y_o (And.intro tlb (And.intro gu (And.intro Nl tlp))) ?_ ?_ ?_ ?_ ?_ ?_ ?_ ?_
              | with_reducible first | exact BzZq.mk | refine Tw.ret ?_ | refine ImZq.i fun h => ?_ | refine IkZq.i fun hk => ?_)
            refine ⟨⟨i + 1, rho + 1, k, upd pl rho a, upd used a true, upd wr a (wr a ^^^ v)⟩, ⟨by dsimp only; omega, nx⟩, by dsimp only; omega, TWk.fcanon env [some 0, some 1, some 4] (by rfl) ?_⟩
            repeat' (first
              | exact ws
              | exact ws.symm
              | exact us
              | exact us.symm
              | exact ap
              | exact ap.symm
              | with_reducible first | exact Conj.nil | refine Conj.cons rfl ?_ | refine Conj.same ?_ | refine Conj.ask ?_ ?_
              | ((with_reducible refine Due.mk ?_); (first | with_reducible rfl | omega | assumption | decide | ((try simp only [goS] at *) <;> (try intro h) <;> (try intro h') <;> (try simp only [goS] at *) <;> (try simp only [rdi, rdy, rdo, Int.toNat_natCast, Nat.add_zero] at *) <;> (try simp only [rng]) <;> (first | assumption | omega)) | (exact due_app0 (by omega)) | (exact due_app (by omega)) | (intros; simp; done) | (intros; simp; omega)))
              | with_reducible refine Due.mk ?_
              | omega)
          · have nx := hD.lost hE2 haN hu (wr a)
            repeat' (first
              | ((with_reducible refine TOps.any ?_); refine TOps.callV env (by rfl) (by rfl) (by rfl) (m3) ?_)
              | refine GZy_i_y_o (And.intro tlb (And.intro gu (And.intro Nl tlp))) ?_ ?_ ?_ ?_ ?_ ?_ ?_ ?_
              | with_reducible first | exact BzZq.mk | refine Tw.ret ?_ | refine ImZq.i fun h => ?_ | refine IkZq.i fun hk => ?_)
            refine ⟨⟨i + 1, rho + 1, k, upd pl rho a, upd used a true, upd wr a (wr a)⟩, ⟨by dsimp only; omega, nx⟩, by dsimp only; omega, TWk.fcanon env [some 0, some 1, some 4] (by rfl) ?_⟩
            repeat' (first
              | exact same
              | exact same.symm
              | exact us
              | exact us.symm
              | exact ap
              | exact ap.symm
              | with_reducible first | exact Conj.nil | refine Conj.cons rfl ?_ | refine Conj.same ?_ | refine Conj.ask ?_ ?_
              | ((with_reducible refine Due.mk ?_); (first | with_reducible rfl | omega | assumption | decide | ((try simp only [goS] at *) <;> (try intro h) <;> (try intro h') <;> (try simp only [goS] at *) <;> (try simp only [rdi, rdy, rdo, Int.toNat_natCast, Nat.add_zero] at *) <;> (try simp only [rng]) <;> (first | assumption | omega)) | (exact due_app0 (by omega)) | (exact due_app (by omega)) | (intros; simp; done) | (intros; simp; omega)))
              | with_reducible refine Due.mk ?_
              | omega)
        · by_cases hk2 : k < err
          · by_cases h3 : i < l3.length
            · have p3 : rng .i64 (l3.getD i 0) := by have := v3 _ (getD_mem (d := 0) h3); simpa [Wi] using this
              simp only [rng] at p3
              have m5 := m4 _ p3
              have nx := hD.bad hk2 haN hu (wr a ^^^ v)
              repeat' (first
                | ((with_reducible refine TOps.any ?_); refine TOps.callV env (by rfl) (by rfl) (by rfl) (m3) ?_)
                | ((with_reducible refine TDr.any ?_); refine TDr.callE env (by first | rfl | assumption) (by rfl) (by rfl) ?_ (m5) (by rfl) (by rfl) ?_)
                | refine GZy_i_y_o (And.intro tlb (And.intro gu (And.intro Nl tlp))) ?_ ?_ ?_ ?_ ?_ ?_ ?_ ?_
                | with_reducible first | exact BzZq.mk | refine Tw.ret ?_ | refine ImZq.i fun h => ?_ | refine IkZq.i fun hk => ?_)
              have z : (err : Int) - ((k + 1 : Nat) : Int) = err - k - 1 := by omega
              refine ⟨⟨i + 1, rho, k + 1, pl, upd used a true, upd wr a (wr a ^^^ v)⟩, ⟨by dsimp only; omega, nx⟩, by dsimp only; omega, TWk.fcanon env [some 0, some 1, some 2] (by rfl) ?_⟩
              repeat' (first
                | exact ws
                | exact ws.symm
                | exact us
                | exact us.symm
                | exact z
                | exact z.symm
                | with_reducible first | exact Conj.nil | refine Conj.cons rfl ?_ | refine Conj.same ?_ | refine Conj.ask ?_ ?_
                | ((with_reducible refine Due.mk ?_); (first | with_reducible rfl | omega | assumption | decide | ((try simp only [goS] at *) <;> (try intro h) <;> (try intro h') <;> (try simp only [goS] at *) <;> (try simp only [rdi, rdy, rdo, Int.toNat_natCast, Nat.add_zero] at *) <;> (try simp only [rng]) <;> (first | assumption | omega)) | (exact due_app0 (by omega)) | (exact due_app (by omega)) | (intros; simp; done) | (intros; simp; omega)))
                | with_reducible refine Due.mk ?_
                | omega)
            · have nx := hD.bad hk2 haN hu (wr a)
              repeat' (first
                | ((with_reducible refine TOps.any ?_); refine TOps.callV env (by rfl) (by rfl) (by rfl) (m3) ?_)
                | refine GZy_i_y_o (And.intro tlb (And.intro gu (And.intro Nl tlp))) ?_ ?_ ?_ ?_ ?_ ?_ ?_ ?_
                | with_reducible first | exact BzZq.mk | refine Tw.ret ?_ | refine ImZq.i fun h => ?_ | refine IkZq.i fun hk => ?_)
              have z : (err : Int) - ((k + 1 : Nat) : Int) = err - k - 1 := by omega
              refine ⟨⟨i + 1, rho, k + 1, pl, upd used a true, upd wr a (wr a)⟩, ⟨by dsimp only; omega, nx⟩, by dsimp only; omega, TWk.fcanon env [some 0, some 1, some 2] (by rfl) ?_⟩
              repeat' (first
                | exact same
                | exact same.symm
                | exact us
                | exact us.symm
                | exact z
                | exact z.symm
                | with_reducible first | exact Conj.nil | refine Conj.cons rfl ?_ | refine Conj.same ?_ | refine Conj.ask ?_ ?_
                | ((with_reducible refine Due.mk ?_); (first | with_reducible rfl | omega | assumption | decide | ((try simp only [goS] at *) <;> (try intro h) <;> (try intro h') <;> (try simp only [goS] at *) <;> (try simp only [rdi, rdy, rdo, Int.toNat_natCast, Nat.add_zero] at *) <;> (try simp only [rng]) <;> (first | assumption | omega)) | (exact due_app0 (by omega)) | (exact due_app (by omega)) | (intros; simp; done) | (intros; simp; omega)))
                | with_reducible refine Due.mk ?_
                | omega)
          · repeat' (first
              | ((with_reducible refine TOps.any ?_); refine TOps.callV env (by rfl) (by rfl) (by rfl) (m3) ?_)
              | refine GZy_i_y_o (And.intro tlb (And.intro gu (And.intro Nl tlp))) ?_ ?_ ?_ ?_ ?_ ?_ ?_ ?_
              | with_reducible first | exact BzZq.mk | refine Tw.ret ?_ | refine ImZq.i fun h => ?_ | refine IkZq.i fun hk => ?_)
            refine ⟨⟨i, rho, k, pl, used, wr⟩, hD, TWk.fcanon env [some 0, some 2] (by rfl) ?_⟩
            repeat' (first
              | with_reducible first | exact Conj.nil | refine Conj.cons rfl ?_ | refine Conj.same ?_ | refine Conj.ask ?_ ?_
              | ((with_reducible refine Due.mk ?_); (first | with_reducible rfl | omega | assumption | decide | ((try simp only [goS] at *) <;> (try intro h) <;> (try intro h') <;> (try simp only [goS] at *) <;> (try simp only [rdi, rdy, rdo, Int.toNat_natCast, Nat.add_zero] at *) <;> (try simp only [rng]) <;> (first | assumption | omega)) | (exact due_app0 (by omega)) | (exact due_app (by omega)) | (intros; simp; done) | (intros; simp; omega)))
              | with_reducible refine Due.mk ?_
              | omega)
    · repeat' (first
        | refine GZp_i_y_o ?_ ?_ ?_ ?_ ?_ ?_ ?_ ?_
        | with_reducible first | exact BzZq.mk | refine Tw.ret ?_ | refine ImZq.i fun h => ?_ | refine IkZq.i fun hk => ?_)
      refine ⟨⟨i, rho, k, pl, used, wr⟩, hD, TWk.fcanon env [some 0, some 2] (by rfl) ?_⟩
      repeat' (first
        | with_reducible first | exact Conj.nil | refine Conj.cons rfl ?_ | refine Conj.same ?_ | refine Conj.ask ?_ ?_
        | ((with_reducible refine Due.mk ?_); (first | with_reducible rfl | omega | assumption | decide | ((try simp only [goS] at *) <;> (try intro h) <;> (try intro h') <;> (try simp only [goS] at *) <;> (try simp only [rdi, rdy, rdo, Int.toNat_natCast, Nat.add_zero] at *) <;> (try simp only [rng]) <;> (first | assumption | omega)) | (exact due_app0 (by omega)) | (exact due_app (by omega)) | (intros; simp; done) | (intros; simp; omega)))
        | with_reducible refine Due.mk ?_
        | omega)
  obtain ⟨i0, rho, k, pl, used, wr⟩ := q
  dsimp only at hq ⊢
  have few := hq.few
  have hr := hq.r1
  obtain ⟨M, hM⟩ : ∃ M : Nat, 400 ≤ M := ⟨400, Nat.le_refl _⟩
  have dc := rsDecL_c N t rho M wr W pl (by unfold Due; omega) o1 hq.p1 hq.p2 (by unfold Due; omega)
  repeat' (first
    | refine GZy_i_y_o Nl ?_ ?_ ?_ ?_ ?_ ?_ ?_ ?_
    | with_reducible first | exact BzZq.mk | refine Tw.ret ?_ | refine ImZq.i fun h => ?_ | refine IkZq.i fun hk => ?_)
  rw [Nl]
  refine Tw.loopK [1, 11, 15, 16, 149] (fun i : Nat => i ≤ N) (fun i => N - i) (fun i => [(150, .int .i64 i), (18, .int .i64 (cntB (fun j => decide (wr j ^^^ W j ≠ 0#8)) i))])
    (fun _ => [some (.arr Ey (btab N wr)), some (.arr Ei (tab rho fun k => ((pl k : Nat) : Int)))]) ⟨0, Nat.zero_le _, TWk.fcanon env [some 0, some 1] (by rfl) ?_⟩ (fun i hi => ?_)
  · repeat' (first
      | with_reducible first | exact Conj.nil | refine Conj.cons rfl ?_ | refine Conj.same ?_ | refine Conj.ask ?_ ?_
      | ((with_reducible refine Due.mk ?_); (first | with_reducible rfl | omega | assumption | decide | ((try simp only [goS] at *) <;> (try intro h) <;> (try intro h') <;> (try simp only [goS] at *) <;> (try simp only [rdi, rdy, rdo, Int.toNat_natCast, Nat.add_zero] at *) <;> (try simp only [rng]) <;> (first | assumption | omega)) | (exact due_app0 (by omega)) | (exact due_app (by omega)) | (intros; simp; done) | (intros; simp; omega)))
      | with_reducible refine Due.mk ?_
      | omega)
    all_goals rfl
  have n1 := cntB_le (fun j => decide (wr j ^^^ W j ≠ 0#8)) i
  have s1 := cntB_succ (fun j => decide (wr j ^^^ W j ≠ 0#8)) i
  rcases Nat.lt_or_ge i N with hi | hi
  · have gf : (btab N wr).getD i 0 = by8 (wr i) := btab_get hi
    have gc : (btab N W).getD i 0 = by8 (W i) := btab_get hi
    have b1 := by8_bd (wr i)
    have b2 := by8_bd (W i)
    by_cases hx : wr i ^^^ W i = 0#8
    · have ex : by8 (W i) = by8 (wr i) := by rw [xor_zero_eq hx]
      rw [if_neg (by simp [hx]), Nat.add_zero] at s1
      repeat' (first
        | refine GZy_i_y_o (And.intro Nl (And.intro gf gc)) ?_ ?_ ?_ ?_ ?_ ?_ ?_ ?_
        | with_reducible first | exact BzZq.mk | refine Tw.ret ?_ | refine ImZq.i fun h => ?_ | refine IkZq.i fun hk => ?_)
      refine ⟨i + 1, by omega, by omega, TWk.fcanon env [some 0, some 1] (by rfl) ?_⟩
      rw [s1]
      repeat' (first
        | refine GZ_i_y_o ?_ ?_ ?_ ?_ ?_ ?_ ?_ ?_
        | with_reducible first | exact BzZq.mk | refine Tw.ret ?_ | refine ImZq.i fun h => ?_ | refine IkZq.i fun hk => ?_)
    · have ex : by8 (W i) ≠ by8 (wr i) := fun h => hx (by rw [by8_inj h, BitVec.xor_self])
      rw [if_pos (by simp [hx])] at s1
      repeat' (first
        | refine GZy_i_y_o (And.intro Nl (And.intro gf gc)) ?_ ?_ ?_ ?_ ?_ ?_ ?_ ?_
        | with_reducible first | exact BzZq.mk | refine Tw.ret ?_ | refine ImZq.i fun h => ?_ | refine IkZq.i fun hk => ?_)
      refine ⟨i + 1, by omega, by omega, TWk.fcanon env [some 0, some 1] (by rfl) ?_⟩
      rw [s1]
      repeat' (first
        | refine GZ_i_y_o ?_ ?_ ?_ ?_ ?_ ?_ ?_ ?_
        | with_reducible first | exact BzZq.mk | refine Tw.ret ?_ | refine ImZq.i fun h => ?_ | refine IkZq.i fun hk => ?_)
  obtain rfl : N = i := by omega
  have ct : cut (btab N wr) 0 N = btab N wr := cut_tab
  have ct2 : cut (tab rho fun k => ((pl k : Nat) : Int)) 0 rho = tab rho fun k => ((pl k : Nat) : Int) := cut_tab
  have sbw := sameBytes_c (btab N W) (btab N W) (by unfold Due; rw [btab_len]; intro i hi; rw [btab_get hi]; exact by8_bd _) (by unfold Due; rw [btab_len]; intro i hi; rw [btab_get hi]; exact by8_bd _)
  rw [decide_eq_true rfl] at sbw
  repeat' (first
    | refine GZp_i_y_o ?_ ?_ ?_ ?_ ?_ ?_ ?_ ?_
    | with_reducible first | exact BzZq.mk | refine Tw.ret ?_ | refine ImZq.i fun h => ?_ | refine IkZq.i fun hk => ?_)
  refine TOps.frz env 0 (by rfl) (by rfl) (by rfl) ?_ ?_ ?_
  · repeat' (first
      | with_reducible first | exact Conj.nil | refine Conj.cons rfl ?_ | refine Conj.same ?_ | refine Conj.ask ?_ ?_
      | ((with_reducible refine Due.mk ?_); (first | with_reducible rfl | omega | assumption | decide | ((try simp only [goS] at *) <;> (try intro h) <;> (try intro h') <;> (try simp only [goS] at *) <;> (try simp only [rdi, rdy, rdo, Nl, Int.toNat_natCast, Nat.add_zero] at *) <;> (try simp only [rng]) <;> (first | assumption | omega)) | (exact due_app0 (by omega)) | (exact due_app (by omega)) | (intros; simp; done) | (intros; simp; omega)))
      | with_reducible refine Due.mk ?_
      | omega)
  · repeat' (first
      | with_reducible first | exact Conj.nil | refine Conj.cons rfl ?_ | refine Conj.same ?_ | refine Conj.ask ?_ ?_
      | ((with_reducible refine Due.mk ?_); (first | with_reducible rfl | omega | assumption | decide | ((try simp only [goS] at *) <;> (try intro h) <;> (try intro h') <;> (try simp only [goS] at *) <;> (try simp only [rdi, rdy, rdo, Nl, Int.toNat_natCast, Nat.add_zero] at *) <;> (try simp only [rng]) <;> (first | assumption | omega)) | (exact due_app0 (by omega)) | (exact due_app (by omega)) | (intros; simp; done) | (intros; simp; omega)))
      | with_reducible refine Due.mk ?_
      | omega)
  refine TOps.frz env 1 (by rfl) (by rfl) (by rfl) ?_ ?_ ?_
  · repeat' (first
      | with_reducible first | exact Conj.nil | refine Conj.cons rfl ?_ | refine Conj.same ?_ | refine Conj.ask ?_ ?_
      | ((with_reducible refine Due.mk ?_); (first | with_reducible rfl | omega | assumption | decide | ((try simp only [goS] at *) <;> (try intro h) <;> (try intro h') <;> (try simp only [goS] at *) <;> (try simp only [rdi, rdy, rdo, tlp, Int.toNat_natCast, Nat.add_zero] at *) <;> (try simp only [rng]) <;> (first | assumption | omega)) | (exact due_app0 (by omega)) | (exact due_app (by omega)) | (intros; simp; done) | (intros; simp; omega)))
      | with_reducible refine Due.mk ?_
      | omega)
  · repeat' (first
      | with_reducible first | exact Conj.nil | refine Conj.cons rfl ?_ | refine Conj.same ?_ | refine Conj.ask ?_ ?_
      | ((with_reducible refine Due.mk ?_); (first | with_reducible rfl | omega | assumption | decide | ((try simp only [goS] at *) <;> (try intro h) <;> (try intro h') <;> (try simp only [goS] at *) <;> (try simp only [rdi, rdy, rdo, tlp, Int.toNat_natCast, Nat.add_zero] at *) <;> (try simp only [rng]) <;> (first | assumption | omega)) | (exact due_app0 (by omega)) | (exact due_app (by omega)) | (intros; simp; done) | (intros; simp; omega)))
      | with_reducible refine Due.mk ?_
      | omega)
  rw [ct, ct2]
  repeat' (first
    | ((with_reducible refine TOps.any ?_); refine TOps.callV env (by rfl) (by rfl) (by rfl) (dc) ?_)
    | ((with_reducible refine TOps.any ?_); refine TOps.callV env (by rfl) (by rfl) (by rfl) (sbw) ?_)
    | refine GZp_i_y_o ?_ ?_ ?_ ?_ ?_ ?_ ?_ ?_
    | with_reducible first | exact BzZq.mk | refine Tw.ret ?_ | refine ImZq.i fun h => ?_ | refine IkZq.i fun hk => ?_)
  exact ⟨rfl, rfl, rfl⟩
end Go.Proofs.Ythkilkjngincpaa
