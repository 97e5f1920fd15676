/- Range coder: a bit is encoded. -/
import Derived.Test.YtjedljdfkoagbaaRc2
import Derived.Test.YtjedljdfkoagbaaGo
namespace Go.Proofs.Ytjedljdfkoagbaa
open Go Go.Lite
set_option linter.unusedVariables false
set_option linter.unusedSimpArgs false
set_option maxRecDepth 100000
set_option maxHeartbeats 4000000
-- @simp rdi rdy

def pV (cs : Cx) (w : Int) (i t V : Nat) : Nat := if t = 0 then V else V + (rspl cs i w).toNat
def pW (cs : Cx) (w : Int) (i t : Nat) : Int := if t = 0 then rspl cs i w else w - rspl cs i w
/-- The rows of an encoder, where its bytes lie in a row that came in or in one of its own. -/
def enX (f : Bool) (cs : Cx) (w b lo : Int) (n : Nat) (x : List Int) : TH A :=
  match f with
  | true => enR cs w b lo n x
  | false => [some (.cells [.sla 2 1 0 cs.length, .int .u32 w, .int .i64 b, .int .u32 lo, .sla 1 3 0 n, .bool false]), some (.arr E2w cs), none, some (.arr Ey x)]
def low (V : Nat) : Int := ((V % 4294967296 : Nat) : Int)
def top (n V : Nat) : List Int := dg n (V / 4294967296)
theorem top_len {n V : Nat} : (top n V).length = n := dg_len
theorem top_up {n V : Nat} : top (n + 1) (V * 256) = top n V ++ [((V / 16777216 % 256 : Nat) : Int)] := by
  simp only [top, dg]
  rw [show V * 256 / 4294967296 = V / 16777216 by omega, show V / 16777216 / 256 = V / 4294967296 by omega]

theorem lrn_len {cs : Cx} {i : Nat} {b : Int} : (lrnC cs i b).length = cs.length := List.length_set ..

theorem put_c (cs : Cx) (w b : Int) (i t V n : Nat) (hi : i < cs.length) (hx : CxOk cs) (hc : cs.length ≤ 4096) (hw : 16777216 ≤ w ∧ w < 4294967296) (hb : 0 ≤ b ∧ b < 1048576) (ht : t ≤ 1) (hn : n ≤ 2000000) :
    TC R Try.prog __rangecoder_Encoder__Put_f [.ptr 0 0, .int .i64 i, .int .i64 t] (enR cs w b (low V) n (top n V))
      (fun v X => v = .int .i64 0 ∧ X = if pW cs w i t < 16777216 then enX false (lrnC cs i t) (pW cs w i t * 256) (b + 1) (low (pV cs w i t V * 256)) (n + 1) (top (n + 1) (pV cs w i t V * 256))
        else enX true (lrnC cs i t) (pW cs w i t) (b + 1) (low (pV cs w i t V)) n (top n (pV cs w i t V))) := by
  have zb := rspl_bd hx hi hw.1
  have lb : 0 ≤ low V ∧ low V ≤ 4294967295 := by unfold low; omega
  have tl : (top n V).length = n := top_len
  have cc : cut cs 0 cs.length = cs := cut_all rfl
  have ct : cut (top n V) 0 n = top n V := cut_all tl.symm
  have c1 : TC R Try.prog __rangecoder_model__check_f [.pel [.lst E2w (cut cs 0 cs.length), .int .u32 w, .int .i64 b, .int .u32 (low V), .lst Ey (cut (top n V) 0 n), .bool false], .int .i64 i] [] (fun v X => v = .int .i64 0 ∧ X = []) := by
    have := rcheck_e cs w b i (low V) (top n V) false hc
    rw [if_pos (by omega), if_pos hb.2] at this
    rw [cc, ct]; exact this
  have c2 : TC R Try.prog __rangecoder_model__split_f [.pel [.lst E2w (cut cs 0 cs.length), .int .u32 w, .int .i64 b, .int .u32 (low V), .lst Ey (cut (top n V) 0 n), .bool false], .int .i64 i] [] (fun v X => v = .int .u32 (rspl cs i w) ∧ X = []) := by
    have := split_e cs w b i (low V) (top n V) false hi hx hw
    rw [cc, ct]; exact this
  by_cases ht0 : t = 0
  · have eW : pW cs w i t = rspl cs i w := if_pos ht0
    have eV : pV cs w i t V = V := if_pos ht0
    rw [eW, eV]
    refine tc env __rangecoder_Encoder__Put_s (by rfl) ?_
    dsimp only [__rangecoder_Encoder__Put_c, enR]
    repeat' (first
      | ((with_reducible refine TOps.any ?_); refine TOps.callE env (by rfl) (by rfl) (by rfl) ?_ (c1) (by rfl) ?_)
      | ((with_reducible refine TOps.any ?_); refine TOps.callE env (by rfl) (by rfl) (by rfl) ?_ (c2) (by rfl) ?_)
      | refine GZp_i_y ?_ ?_ ?_ ?_ ?_ ?_ ?_ ?_
      | with_reducible first | exact BzZq.mk | refine Tw.ret ?_ | refine ImZq.i fun h => ?_ | refine IkZq.i fun hk => ?_)
    have lb2 : 0 ≤ low V ∧ low V ≤ 4294967295 := by unfold low; omega
    have tl2 : (top n V).length = n := top_len
    have tl3 : (top (n + 1) (V * 256)).length = n + 1 := top_len
    have e8 : low (V * 256) = low V * 2 ^ Int.toNat 8 % 4294967296 := by
      show low (V * 256) = low V * 256 % 4294967296
      unfold low; omega
    have e9 : top (n + 1) (V * 256) = cut (top n V) 0 n ++ cut [low V / 2 ^ Int.toNat 24 % 256] 0 1 := by
      rw [top_up, cut_all tl2.symm, cut_one]
      refine congrArg (fun z => top n V ++ [z]) ?_
      show ((V / 16777216 % 256 : Nat) : Int) = low V / 16777216 % 256
      unfold low; omega
    by_cases hk : (rspl cs i w) < 16777216
    · rw [if_pos hk]
      refine Tw.loopK [0, 1, 2] (fun f : Bool => True) (fun f => f.toNat) (fun _ => [])
        (fun f => match f with
          | true => [some (.cells [.sla 2 1 0 cs.length, .int .u32 (rspl cs i w), .int .i64 b, .int .u32 (low V), .sla 1 2 0 n, .bool false]), some (.arr E2w cs), some (.arr Ey (top n V))]
          | false => [some (.cells [.sla 2 1 0 cs.length, .int .u32 ((rspl cs i w) * 256), .int .i64 b, .int .u32 (low (V * 256)), .sla 1 3 0 (n + 1), .bool false]), some (.arr E2w cs), none, some (.arr Ey (top (n + 1) (V * 256)))])
        ⟨true, trivial, TWk.fcanon env [some 0, some 1, some 2] (by rfl) ?_⟩ (fun f _ => ?_)
      · repeat' (first
          | with_reducible first | exact Conj.nil | refine Conj.cons rfl ?_ | refine Conj.same ?_ | refine Conj.ask ?_ ?_
          | ((with_reducible refine Due.mk ?_); (first | with_reducible rfl | omega | assumption | decide | ((try simp only [goS] at *) <;> (try intro h) <;> (try intro h') <;> (try simp only [goS] at *) <;> (try simp only [rdi, rdy, Int.toNat_natCast, Nat.add_zero] at *) <;> (try simp only [rng]) <;> (first | assumption | omega)) | (exact due_app0 (by omega)) | (exact due_app (by omega)) | (intros; simp; done) | (intros; simp; omega)))
          | with_reducible refine Due.mk ?_
          | omega)
      cases f
      · repeat' (first
          | ((with_reducible refine TOps.any ?_); refine TOps.callHE env [0, 1, 3] (learn_e cs ((rspl cs i w) * 256) b i t (low (V * 256)) 0 (n + 1) (top (n + 1) (V * 256)) false hi hx ht hb) (by rfl) (by rfl) (by rfl) (by rfl) (by rfl) (by rfl) (by repeat' (first | exact trivial | refine ⟨rfl, ?_⟩)) ?_)
          | refine GZp_i_y ?_ ?_ ?_ ?_ ?_ ?_ ?_ ?_
          | with_reducible first | exact BzZq.mk | refine Tw.ret ?_ | refine ImZq.i fun h => ?_ | refine IkZq.i fun hk => ?_)
        refine ⟨rfl, ?_⟩
        simp only [enX, lrn_len]
      · repeat' (first
          | refine GZp_i_y ?_ ?_ ?_ ?_ ?_ ?_ ?_ ?_
          | with_reducible first | exact BzZq.mk | refine Tw.ret ?_ | refine ImZq.i fun h => ?_ | refine IkZq.i fun hk => ?_)
        refine ⟨false, trivial, by decide, TWk.fcanon env [some 0, some 1, some 2, some 4] (by rfl) ?_⟩
        repeat' (first
          | exact e8
          | exact e9
          | with_reducible first | exact Conj.nil | refine Conj.cons rfl ?_ | refine Conj.same ?_ | refine Conj.ask ?_ ?_
          | ((with_reducible refine Due.mk ?_); (first | with_reducible rfl | omega | assumption | decide | ((try simp only [goS] at *) <;> (try intro h) <;> (try intro h') <;> (try simp only [goS] at *) <;> (try simp only [rdi, rdy, Int.toNat_natCast, Nat.add_zero] at *) <;> (try simp only [rng]) <;> (first | assumption | omega)) | (exact due_app0 (by omega)) | (exact due_app (by omega)) | (intros; simp; done) | (intros; simp; omega)))
          | with_reducible refine Due.mk ?_
          | omega)
    · rw [if_neg hk]
      refine Tw.loopK [0, 1, 2] (fun _ : Unit => True) (fun _ => 0) (fun _ => [])
        (fun f => [some (.cells [.sla 2 1 0 cs.length, .int .u32 (rspl cs i w), .int .i64 b, .int .u32 (low V), .sla 1 2 0 n, .bool false]), some (.arr E2w cs), some (.arr Ey (top n V))])
        ⟨(), trivial, TWk.fcanon env [some 0, some 1, some 2] (by rfl) ?_⟩ (fun f _ => ?_)
      · repeat' (first
          | with_reducible first | exact Conj.nil | refine Conj.cons rfl ?_ | refine Conj.same ?_ | refine Conj.ask ?_ ?_
          | ((with_reducible refine Due.mk ?_); (first | with_reducible rfl | omega | assumption | decide | ((try simp only [goS] at *) <;> (try intro h) <;> (try intro h') <;> (try simp only [goS] at *) <;> (try simp only [rdi, rdy, Int.toNat_natCast, Nat.add_zero] at *) <;> (try simp only [rng]) <;> (first | assumption | omega)) | (exact due_app0 (by omega)) | (exact due_app (by omega)) | (intros; simp; done) | (intros; simp; omega)))
          | with_reducible refine Due.mk ?_
          | omega)
      repeat' (first
        | ((with_reducible refine TOps.any ?_); refine TOps.callHE env [0, 1, 2] (learn_e cs (rspl cs i w) b i t (low V) 0 n (top n V) false hi hx ht hb) (by rfl) (by rfl) (by rfl) (by rfl) (by rfl) (by rfl) (by repeat' (first | exact trivial | refine ⟨rfl, ?_⟩)) ?_)
        | refine GZp_i_y ?_ ?_ ?_ ?_ ?_ ?_ ?_ ?_
        | with_reducible first | exact BzZq.mk | refine Tw.ret ?_ | refine ImZq.i fun h => ?_ | refine IkZq.i fun hk => ?_)
      refine ⟨rfl, ?_⟩
      simp only [enX, enR, lrn_len]
  · have eW : pW cs w i t = w - rspl cs i w := if_neg ht0
    have eV : pV cs w i t V = V + (rspl cs i w).toNat := if_neg ht0
    have lz : low (V + (rspl cs i w).toNat) = (low V + rspl cs i w) % 4294967296 := by unfold low; omega
    rw [eW, eV]
    have zz : ((rspl cs i w).toNat : Int) = rspl cs i w := by omega
    have wz : w - rspl cs i w = (w - rspl cs i w) % 4294967296 := by omega
    by_cases hcar : low V + rspl cs i w < 4294967296
    · have tz : top n (V + (rspl cs i w).toNat) = top n V := by
        unfold low at hcar
        unfold top; rw [show (V + (rspl cs i w).toNat) / 4294967296 = V / 4294967296 by omega]
      refine tc env __rangecoder_Encoder__Put_s (by rfl) ?_
      dsimp only [__rangecoder_Encoder__Put_c, enR]
      repeat' (first
        | ((with_reducible refine TOps.any ?_); refine TOps.callE env (by rfl) (by rfl) (by rfl) ?_ (c1) (by rfl) ?_)
        | ((with_reducible refine TOps.any ?_); refine TOps.callE env (by rfl) (by rfl) (by rfl) ?_ (c2) (by rfl) ?_)
        | refine GZp_i_y ?_ ?_ ?_ ?_ ?_ ?_ ?_ ?_
        | with_reducible first | exact BzZq.mk | refine Tw.ret ?_ | refine ImZq.i fun h => ?_ | refine IkZq.i fun hk => ?_)
      have lb2 : 0 ≤ low (V + (rspl cs i w).toNat) ∧ low (V + (rspl cs i w).toNat) ≤ 4294967295 := by unfold low; omega
      have tl2 : (top n (V + (rspl cs i w).toNat)).length = n := top_len
      have tl3 : (top (n + 1) ((V + (rspl cs i w).toNat) * 256)).length = n + 1 := top_len
      have e8 : low ((V + (rspl cs i w).toNat) * 256) = low (V + (rspl cs i w).toNat) * 2 ^ Int.toNat 8 % 4294967296 := by
        show low ((V + (rspl cs i w).toNat) * 256) = low (V + (rspl cs i w).toNat) * 256 % 4294967296
        unfold low; omega
      have e9 : top (n + 1) ((V + (rspl cs i w).toNat) * 256) = cut (top n (V + (rspl cs i w).toNat)) 0 n ++ cut [low (V + (rspl cs i w).toNat) / 2 ^ Int.toNat 24 % 256] 0 1 := by
        rw [top_up, cut_all tl2.symm, cut_one]
        refine congrArg (fun z => top n (V + (rspl cs i w).toNat) ++ [z]) ?_
        show (((V + (rspl cs i w).toNat) / 16777216 % 256 : Nat) : Int) = low (V + (rspl cs i w).toNat) / 16777216 % 256
        unfold low; omega
      by_cases hk : (w - rspl cs i w) < 16777216
      · rw [if_pos hk]
        refine Tw.loopK [0, 1, 2] (fun f : Bool => True) (fun f => f.toNat) (fun _ => [])
          (fun f => match f with
            | true => [some (.cells [.sla 2 1 0 cs.length, .int .u32 (w - rspl cs i w), .int .i64 b, .int .u32 (low (V + (rspl cs i w).toNat)), .sla 1 2 0 n, .bool false]), some (.arr E2w cs), some (.arr Ey (top n (V + (rspl cs i w).toNat)))]
            | false => [some (.cells [.sla 2 1 0 cs.length, .int .u32 ((w - rspl cs i w) * 256), .int .i64 b, .int .u32 (low ((V + (rspl cs i w).toNat) * 256)), .sla 1 3 0 (n + 1), .bool false]), some (.arr E2w cs), none, some (.arr Ey (top (n + 1) ((V + (rspl cs i w).toNat) * 256)))])
          ⟨true, trivial, TWk.fcanon env [some 0, some 1, some 2] (by rfl) ?_⟩ (fun f _ => ?_)
        · repeat' (first
            | exact wz
            | exact lz
            | exact tz
            | with_reducible first | exact Conj.nil | refine Conj.cons rfl ?_ | refine Conj.same ?_ | refine Conj.ask ?_ ?_
            | ((with_reducible refine Due.mk ?_); (first | with_reducible rfl | omega | assumption | decide | ((try simp only [goS] at *) <;> (try intro h) <;> (try intro h') <;> (try simp only [goS] at *) <;> (try simp only [rdi, rdy, Int.toNat_natCast, Nat.add_zero] at *) <;> (try simp only [rng]) <;> (first | assumption | omega)) | (exact due_app0 (by omega)) | (exact due_app (by omega)) | (intros; simp; done) | (intros; simp; omega)))
            | with_reducible refine Due.mk ?_
            | omega)
        cases f
        · repeat' (first
            | ((with_reducible refine TOps.any ?_); refine TOps.callHE env [0, 1, 3] (learn_e cs ((w - rspl cs i w) * 256) b i t (low ((V + (rspl cs i w).toNat) * 256)) 0 (n + 1) (top (n + 1) ((V + (rspl cs i w).toNat) * 256)) false hi hx ht hb) (by rfl) (by rfl) (by rfl) (by rfl) (by rfl) (by rfl) (by repeat' (first | exact trivial | refine ⟨rfl, ?_⟩)) ?_)
            | refine GZp_i_y ?_ ?_ ?_ ?_ ?_ ?_ ?_ ?_
            | with_reducible first | exact BzZq.mk | refine Tw.ret ?_ | refine ImZq.i fun h => ?_ | refine IkZq.i fun hk => ?_)
          refine ⟨rfl, ?_⟩
          simp only [enX, lrn_len]
        · repeat' (first
            | refine GZp_i_y ?_ ?_ ?_ ?_ ?_ ?_ ?_ ?_
            | with_reducible first | exact BzZq.mk | refine Tw.ret ?_ | refine ImZq.i fun h => ?_ | refine IkZq.i fun hk => ?_)
          refine ⟨false, trivial, by decide, TWk.fcanon env [some 0, some 1, some 2, some 4] (by rfl) ?_⟩
          repeat' (first
            | exact e8
            | exact e9
            | with_reducible first | exact Conj.nil | refine Conj.cons rfl ?_ | refine Conj.same ?_ | refine Conj.ask ?_ ?_
            | ((with_reducible refine Due.mk ?_); (first | with_reducible rfl | omega | assumption | decide | ((try simp only [goS] at *) <;> (try intro h) <;> (try intro h') <;> (try simp only [goS] at *) <;> (try simp only [rdi, rdy, Int.toNat_natCast, Nat.add_zero] at *) <;> (try simp only [rng]) <;> (first | assumption | omega)) | (exact due_app0 (by omega)) | (exact due_app (by omega)) | (intros; simp; done) | (intros; simp; omega)))
            | with_reducible refine Due.mk ?_
            | omega)
      · rw [if_neg hk]
        refine Tw.loopK [0, 1, 2] (fun _ : Unit => True) (fun _ => 0) (fun _ => [])
          (fun f => [some (.cells [.sla 2 1 0 cs.length, .int .u32 (w - rspl cs i w), .int .i64 b, .int .u32 (low (V + (rspl cs i w).toNat)), .sla 1 2 0 n, .bool false]), some (.arr E2w cs), some (.arr Ey (top n (V + (rspl cs i w).toNat)))])
          ⟨(), trivial, TWk.fcanon env [some 0, some 1, some 2] (by rfl) ?_⟩ (fun f _ => ?_)
        · repeat' (first
            | exact wz
            | exact lz
            | exact tz
            | with_reducible first | exact Conj.nil | refine Conj.cons rfl ?_ | refine Conj.same ?_ | refine Conj.ask ?_ ?_
            | ((with_reducible refine Due.mk ?_); (first | with_reducible rfl | omega | assumption | decide | ((try simp only [goS] at *) <;> (try intro h) <;> (try intro h') <;> (try simp only [goS] at *) <;> (try simp only [rdi, rdy, Int.toNat_natCast, Nat.add_zero] at *) <;> (try simp only [rng]) <;> (first | assumption | omega)) | (exact due_app0 (by omega)) | (exact due_app (by omega)) | (intros; simp; done) | (intros; simp; omega)))
            | with_reducible refine Due.mk ?_
            | omega)
        repeat' (first
          | ((with_reducible refine TOps.any ?_); refine TOps.callHE env [0, 1, 2] (learn_e cs (w - rspl cs i w) b i t (low (V + (rspl cs i w).toNat)) 0 n (top n (V + (rspl cs i w).toNat)) false hi hx ht hb) (by rfl) (by rfl) (by rfl) (by rfl) (by rfl) (by rfl) (by repeat' (first | exact trivial | refine ⟨rfl, ?_⟩)) ?_)
          | refine GZp_i_y ?_ ?_ ?_ ?_ ?_ ?_ ?_ ?_
          | with_reducible first | exact BzZq.mk | refine Tw.ret ?_ | refine ImZq.i fun h => ?_ | refine IkZq.i fun hk => ?_)
        refine ⟨rfl, ?_⟩
        simp only [enX, enR, lrn_len]
    · have tz : top n (V + (rspl cs i w).toNat) = dg n (V / 4294967296 + 1) := by
        unfold low at hcar
        unfold top; rw [show (V + (rspl cs i w).toNat) / 4294967296 = V / 4294967296 + 1 by omega]
      refine tc env __rangecoder_Encoder__Put_s (by rfl) ?_
      dsimp only [__rangecoder_Encoder__Put_c, enR]
      repeat' (first
        | ((with_reducible refine TOps.any ?_); refine TOps.callE env (by rfl) (by rfl) (by rfl) ?_ (c1) (by rfl) ?_)
        | ((with_reducible refine TOps.any ?_); refine TOps.callE env (by rfl) (by rfl) (by rfl) ?_ (c2) (by rfl) ?_)
        | ((with_reducible refine TOps.any ?_); refine TOps.callHE env [0, 1, 2] (carry_c cs w b ((low V + rspl cs i w) % 4294967296) n (V / 4294967296) (by omega)) (by rfl) (by rfl) (by rfl) (by rfl) (by rfl) (by rfl) (by repeat' (first | exact trivial | refine ⟨rfl, ?_⟩)) ?_)
        | refine GZp_i_y ?_ ?_ ?_ ?_ ?_ ?_ ?_ ?_
        | with_reducible first | exact BzZq.mk | refine Tw.ret ?_ | refine ImZq.i fun h => ?_ | refine IkZq.i fun hk => ?_)
      have lb2 : 0 ≤ low (V + (rspl cs i w).toNat) ∧ low (V + (rspl cs i w).toNat) ≤ 4294967295 := by unfold low; omega
      have tl2 : (top n (V + (rspl cs i w).toNat)).length = n := top_len
      have tl3 : (top (n + 1) ((V + (rspl cs i w).toNat) * 256)).length = n + 1 := top_len
      have e8 : low ((V + (rspl cs i w).toNat) * 256) = low (V + (rspl cs i w).toNat) * 2 ^ Int.toNat 8 % 4294967296 := by
        show low ((V + (rspl cs i w).toNat) * 256) = low (V + (rspl cs i w).toNat) * 256 % 4294967296
        unfold low; omega
      have e9 : top (n + 1) ((V + (rspl cs i w).toNat) * 256) = cut (top n (V + (rspl cs i w).toNat)) 0 n ++ cut [low (V + (rspl cs i w).toNat) / 2 ^ Int.toNat 24 % 256] 0 1 := by
        rw [top_up, cut_all tl2.symm, cut_one]
        refine congrArg (fun z => top n (V + (rspl cs i w).toNat) ++ [z]) ?_
        show (((V + (rspl cs i w).toNat) / 16777216 % 256 : Nat) : Int) = low (V + (rspl cs i w).toNat) / 16777216 % 256
        unfold low; omega
      by_cases hk : (w - rspl cs i w) < 16777216
      · rw [if_pos hk]
        refine Tw.loopK [0, 1, 2] (fun f : Bool => True) (fun f => f.toNat) (fun _ => [])
          (fun f => match f with
            | true => [some (.cells [.sla 2 1 0 cs.length, .int .u32 (w - rspl cs i w), .int .i64 b, .int .u32 (low (V + (rspl cs i w).toNat)), .sla 1 2 0 n, .bool false]), some (.arr E2w cs), some (.arr Ey (top n (V + (rspl cs i w).toNat)))]
            | false => [some (.cells [.sla 2 1 0 cs.length, .int .u32 ((w - rspl cs i w) * 256), .int .i64 b, .int .u32 (low ((V + (rspl cs i w).toNat) * 256)), .sla 1 3 0 (n + 1), .bool false]), some (.arr E2w cs), none, some (.arr Ey (top (n + 1) ((V + (rspl cs i w).toNat) * 256)))])
          ⟨true, trivial, TWk.fcanon env [some 0, some 1, some 2] (by rfl) ?_⟩ (fun f _ => ?_)
        · repeat' (first
            | exact wz
            | exact lz
            | exact tz
            | with_reducible first | exact Conj.nil | refine Conj.cons rfl ?_ | refine Conj.same ?_ | refine Conj.ask ?_ ?_
            | ((with_reducible refine Due.mk ?_); (first | with_reducible rfl | omega | assumption | decide | ((try simp only [goS] at *) <;> (try intro h) <;> (try intro h') <;> (try simp only [goS] at *) <;> (try simp only [rdi, rdy, Int.toNat_natCast, Nat.add_zero] at *) <;> (try simp only [rng]) <;> (first | assumption | omega)) | (exact due_app0 (by omega)) | (exact due_app (by omega)) | (intros; simp; done) | (intros; simp; omega)))
            | with_reducible refine Due.mk ?_
            | omega)
        cases f
        · repeat' (first
            | ((with_reducible refine TOps.any ?_); refine TOps.callHE env [0, 1, 3] (learn_e cs ((w - rspl cs i w) * 256) b i t (low ((V + (rspl cs i w).toNat) * 256)) 0 (n + 1) (top (n + 1) ((V + (rspl cs i w).toNat) * 256)) false hi hx ht hb) (by rfl) (by rfl) (by rfl) (by rfl) (by rfl) (by rfl) (by repeat' (first | exact trivial | refine ⟨rfl, ?_⟩)) ?_)
            | refine GZp_i_y ?_ ?_ ?_ ?_ ?_ ?_ ?_ ?_
            | with_reducible first | exact BzZq.mk | refine Tw.ret ?_ | refine ImZq.i fun h => ?_ | refine IkZq.i fun hk => ?_)
          refine ⟨rfl, ?_⟩
          simp only [enX, lrn_len]
        · repeat' (first
            | refine GZp_i_y ?_ ?_ ?_ ?_ ?_ ?_ ?_ ?_
            | with_reducible first | exact BzZq.mk | refine Tw.ret ?_ | refine ImZq.i fun h => ?_ | refine IkZq.i fun hk => ?_)
          refine ⟨false, trivial, by decide, TWk.fcanon env [some 0, some 1, some 2, some 4] (by rfl) ?_⟩
          repeat' (first
            | exact e8
            | exact e9
            | with_reducible first | exact Conj.nil | refine Conj.cons rfl ?_ | refine Conj.same ?_ | refine Conj.ask ?_ ?_
            | ((with_reducible refine Due.mk ?_); (first | with_reducible rfl | omega | assumption | decide | ((try simp only [goS] at *) <;> (try intro h) <;> (try intro h') <;> (try simp only [goS] at *) <;> (try simp only [rdi, rdy, Int.toNat_natCast, Nat.add_zero] at *) <;> (try simp only [rng]) <;> (first | assumption | omega)) | (exact due_app0 (by omega)) | (exact due_app (by omega)) | (intros; simp; done) | (intros; simp; omega)))
            | with_reducible refine Due.mk ?_
            | omega)
      · rw [if_neg hk]
        refine Tw.loopK [0, 1, 2] (fun _ : Unit => True) (fun _ => 0) (fun _ => [])
          (fun f => [some (.cells [.sla 2 1 0 cs.length, .int .u32 (w - rspl cs i w), .int .i64 b, .int .u32 (low (V + (rspl cs i w).toNat)), .sla 1 2 0 n, .bool false]), some (.arr E2w cs), some (.arr Ey (top n (V + (rspl cs i w).toNat)))])
          ⟨(), trivial, TWk.fcanon env [some 0, some 1, some 2] (by rfl) ?_⟩ (fun f _ => ?_)
        · repeat' (first
            | exact wz
            | exact lz
            | exact tz
            | with_reducible first | exact Conj.nil | refine Conj.cons rfl ?_ | refine Conj.same ?_ | refine Conj.ask ?_ ?_
            | ((with_reducible refine Due.mk ?_); (first | with_reducible rfl | omega | assumption | decide | ((try simp only [goS] at *) <;> (try intro h) <;> (try intro h') <;> (try simp only [goS] at *) <;> (try simp only [rdi, rdy, Int.toNat_natCast, Nat.add_zero] at *) <;> (try simp only [rng]) <;> (first | assumption | omega)) | (exact due_app0 (by omega)) | (exact due_app (by omega)) | (intros; simp; done) | (intros; simp; omega)))
            | with_reducible refine Due.mk ?_
            | omega)
        repeat' (first
          | ((with_reducible refine TOps.any ?_); refine TOps.callHE env [0, 1, 2] (learn_e cs (w - rspl cs i w) b i t (low (V + (rspl cs i w).toNat)) 0 n (top n (V + (rspl cs i w).toNat)) false hi hx ht hb) (by rfl) (by rfl) (by rfl) (by rfl) (by rfl) (by rfl) (by repeat' (first | exact trivial | refine ⟨rfl, ?_⟩)) ?_)
          | refine GZp_i_y ?_ ?_ ?_ ?_ ?_ ?_ ?_ ?_
          | with_reducible first | exact BzZq.mk | refine Tw.ret ?_ | refine ImZq.i fun h => ?_ | refine IkZq.i fun hk => ?_)
        refine ⟨rfl, ?_⟩
        simp only [enX, enR, lrn_len]
end Go.Proofs.Ytjedljdfkoagbaa
