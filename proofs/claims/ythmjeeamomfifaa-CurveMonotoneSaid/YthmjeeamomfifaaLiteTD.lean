/- Lite, part TD: values that are computed or read are as tval says. -/
import Derived.Test.YthmjeeamomfifaaLiteTC
namespace Go.Lite
open Go Go.RowKit
set_option linter.unusedVariables false

section
variable {A : Nat → Type} {R : Reg A}

theorem valP_pure {τ : TT} {F : Fr} {H : Hp} {op : Op} {x : LV} (h : pureOp τ F op = some x) : valP τ F H op = some x := by unfold valP; rw [h]
theorem valP_load {τ : TT} {F : Fr} {H : Hp} {t : TypeId} {a : Operand} {x : LV} (h : loadOp τ F H (.load t a) = some x) : valP τ F H (.load t a) = some x := h

theorem embL_eq (F : TF A) (l : List Operand) : l.map (evalO (embF R F)) = embC R (l.map (tO F)) := by
  rw [embC_eq, List.map_map]
  exact List.map_congr_left fun o _ => evalO_emb R F o

theorem parts_emb (F : TF A) (ps : List (Nat × Operand)) : (ps.map fun p => (p.1, evalO (embF R F) p.2)) = (ps.map fun p => (p.1, tO F p.2)).map fun p => (p.1, emb R p.2) := by
  rw [List.map_map]
  exact List.map_congr_left fun p _ => by simp [evalO_emb R F]

theorem subs_eq {F : TF A} {lo hi : Option Operand} {l h : Int} {o len : Nat} (h1 : loI F lo = some l) (h2 : hiI F len hi = some h) (h3 : 0 ≤ l ∧ l ≤ h ∧ h ≤ len) :
    subOff o (isN lo) l = l.toNat + o ∧ subLen len (isN lo) (isN hi) l h = h.toNat - l.toNat := by
  cases lo with
  | none =>
    obtain rfl := Option.some.inj h1
    cases hi with
    | none =>
      obtain rfl := Option.some.inj h2
      exact ⟨by simp [subOff, isN], by simp [subLen, isN]⟩
    | some o' => exact ⟨by simp [subOff, isN], by simp [subLen, isN]⟩
  | some o' =>
    cases hi with
    | none =>
      obtain rfl := Option.some.inj h2
      exact ⟨by simp [subOff, isN], by simp [subLen, isN]⟩
    | some o'' => exact ⟨by simp [subOff, isN], by simp [subLen, isN]⟩

theorem tval_ok (hR : R.Ok) {τ : TT} {F : TF A} {H : TH A} {op : Op} {cs : List Prop} {v : TV A} (h : tval R τ F H op = some (cs, v)) (hc : Conj cs) : valP τ (embF R F) (embH R H) op = some (emb R v) := by
  have hg : ∀ {op : Op}, gen R τ F op = some (cs, v) → valP τ (embF R F) (embH R H) op = some (emb R v) := fun h => valP_pure (gen_ok R h)
  have E := evalO_emb R F
  unfold tval at h
  split at h
  · simp only [Option.some.injEq, Prod.mk.injEq] at h
    obtain ⟨_, rfl⟩ := h
    exact valP_pure (by simp only [pureOp, E])
  · simp only [Option.some.injEq, Prod.mk.injEq] at h
    obtain ⟨_, rfl⟩ := h
    exact valP_pure (by simp only [pureOp, E])
  · split at h
    · rename_i k a k' b hx hy
      refine valP_pure ?_
      simp only [pureOp, E, hx, hy, emb]
      have := tint_ok R h hc
      unfold lbinT
      exact this
    · exact hg h
  · split at h
    · rename_i k n hx
      simp only [Option.some.injEq, Prod.mk.injEq] at h
      obtain ⟨rfl, rfl⟩ := h
      refine valP_pure ?_
      simp only [pureOp, E, hx, emb, lun]
      rw [show (0 : Int) - n = -n by omega, arith_ok hc]
    · cases h
  · split at h
    · rename_i b hx
      simp only [Option.some.injEq, Prod.mk.injEq] at h
      obtain ⟨rfl, rfl⟩ := h
      exact valP_pure (by simp only [pureOp, E, hx, emb, lun])
    · cases h
  · split at h
    · rename_i ti k sz ag z k0 n h1 h2 hx
      simp only [Option.some.injEq, Prod.mk.injEq] at h
      obtain ⟨rfl, rfl⟩ := h
      refine valP_pure ?_
      simp only [pureOp, E, h1, h2, hx, emb]
      rw [arith_ok hc]
    · rename_i ti sz ag z b h1 h2 hx
      simp only [Option.some.injEq, Prod.mk.injEq] at h
      obtain ⟨rfl, rfl⟩ := h
      exact valP_pure (by simp only [pureOp, E, h1, h2, hx, emb])
    · cases h
  · rename_i f first cap
    cases hb : Nat.beq first.size 0 with
    | false => rw [hb] at h; cases h
    | true =>
      rw [hb] at h
      simp only [cond_true, Option.some.injEq, Prod.mk.injEq] at h
      obtain ⟨_, rfl⟩ := h
      refine valP_pure ?_
      simp only [pureOp]
      rw [if_pos (Nat.eq_of_beq_eq_true hb), embL_eq]; rfl
  · split at h
    · rename_i vs hx
      split at h
      · rename_i w hw
        simp only [Option.some.injEq, Prod.mk.injEq] at h
        obtain ⟨_, rfl⟩ := h
        refine valP_pure ?_
        simp only [pureOp, E, hx, emb]
        rw [nth_eq] at hw
        rw [embC_get, hw]; rfl
      · cases h
    · cases h
  · split at h
    all_goals first | (cases h; done) | skip
    all_goals
      rename_i hx
      simp only [Option.some.injEq, Prod.mk.injEq] at h
      obtain ⟨_, rfl⟩ := h
      exact valP_pure (by simp only [pureOp, E, hx, emb])
  · split at h
    · rename_i fs sz ag z r o h1 hx
      split at h
      · rename_i off size g hf
        cases hb : Nat.beq size 0 with
        | true => rw [hb] at h; cases h
        | false =>
          rw [hb] at h
          simp only [cond_false, Option.some.injEq, Prod.mk.injEq] at h
          obtain ⟨_, rfl⟩ := h
          rw [nth_eq] at hf
          refine valP_pure ?_
          simp only [pureOp, E, h1, hx, emb, hf]
          rw [if_neg (fun e => by subst e; simp at hb)]
      · cases h
    · rename_i fs sz ag z esz r i o h1 hx
      split at h
      · rename_i off size g hf
        cases hb : Nat.beq size 0 with
        | true => rw [hb] at h; cases h
        | false =>
          rw [hb] at h
          simp only [cond_false, Option.some.injEq, Prod.mk.injEq] at h
          obtain ⟨_, rfl⟩ := h
          rw [nth_eq] at hf
          refine valP_pure ?_
          simp only [pureOp, E, h1, hx, emb, hf]
          rw [if_neg (fun e => by subst e; simp at hb), Nat.add_assoc]
      · cases h
    · rename_i fs sz ag z ds h1 hx
      split at h
      · rename_i off size g hf
        cases hb : Nat.beq size 0 with
        | true => rw [hb] at h; cases h
        | false =>
          rw [hb] at h
          simp only [cond_false, Option.some.injEq, Prod.mk.injEq] at h
          obtain ⟨_, rfl⟩ := h
          rw [nth_eq] at hf
          refine valP_pure ?_
          simp only [pureOp, E, h1, hx, emb, hf]
          rw [if_neg (fun e => by subst e; simp at hb), embC_drop]
      · cases h
    · cases h
  · split at h
    · rename_i fs sz ag z ds h1 hx
      split at h
      · rename_i off size g hf
        split at h
        · rename_i w hw
          simp only [Option.some.injEq, Prod.mk.injEq] at h
          obtain ⟨_, rfl⟩ := h
          rw [nth_eq] at hf
          refine valP_pure ?_
          simp only [pureOp, E, h1, hx, emb, hf]
          exact tpart_emb R hw
        · cases h
      · cases h
    · cases h
  · -- indexAddr
    split at h
    · rename_i esz eb ez sz ag z e xs k m h1 hx hi
      cases hb : Nat.beq (R.sz e) esz with
      | false => rw [hb] at h; cases h
      | true =>
        rw [hb] at h
        simp only [cond_true, Option.some.injEq, Prod.mk.injEq] at h
        obtain ⟨rfl, rfl⟩ := h
        obtain ⟨⟨c1, c2⟩, _⟩ := hc
        have he := Nat.eq_of_beq_eq_true hb
        have hm : m.toNat < xs.length := by omega
        refine valP_pure ?_
        simp only [pureOp, E, h1, hx, hi, emb]
        rw [if_pos ⟨he, c1, c2⟩]
        obtain ⟨s1, s2⟩ := fm_split (hR.len e) hm
        rw [s1, List.drop_append, List.drop_eq_nil_of_le (by rw [s2]; exact Nat.le_refl _), List.nil_append, s2, Nat.sub_self, List.drop_zero, List.take_append, hR.len, Nat.sub_self, List.take_zero, List.append_nil,
          List.take_of_length_le (by rw [hR.len]; exact Nat.le_refl _), hR.ok, getD_get _ hm]
    · rename_i esz eb ez sz ag z ss r o len k m h1 hx hi
      cases hb : Nat.beq ss esz with
      | false => rw [hb] at h; cases h
      | true =>
        rw [hb] at h
        simp only [cond_true, Option.some.injEq, Prod.mk.injEq] at h
        obtain ⟨rfl, rfl⟩ := h
        obtain ⟨⟨c1, c2⟩, _⟩ := hc
        refine valP_pure ?_
        simp only [pureOp, E, h1, hx, hi, emb]
        rw [if_pos ⟨Nat.eq_of_beq_eq_true hb, c1, c2⟩, Nat.add_zero, Nat.add_mul, Nat.add_comm]
    · rename_i esz eb ez sz ag z ss r o len k m h1 hx hi
      cases hb : Nat.beq ss esz with
      | false => rw [hb] at h; cases h
      | true =>
        rw [hb] at h
        simp only [cond_true, Option.some.injEq, Prod.mk.injEq] at h
        obtain ⟨rfl, rfl⟩ := h
        obtain ⟨⟨c1, c2⟩, _⟩ := hc
        refine valP_pure ?_
        simp only [pureOp, E, h1, hx, hi, emb]
        rw [if_pos ⟨Nat.eq_of_beq_eq_true hb, c1, c2⟩]
    · rename_i m esz g sz ag z r o k n h1 hx hi
      simp only [Option.some.injEq, Prod.mk.injEq] at h
      obtain ⟨rfl, rfl⟩ := h
      obtain ⟨c1, _⟩ := hc
      refine valP_pure ?_
      simp only [pureOp, E, h1, hx, hi, emb]
      rw [if_pos c1]
    · rename_i m esz g sz ag z ss r i o k n h1 hx hi
      simp only [Option.some.injEq, Prod.mk.injEq] at h
      obtain ⟨rfl, rfl⟩ := h
      obtain ⟨c1, _⟩ := hc
      refine valP_pure ?_
      simp only [pureOp, E, h1, hx, hi, emb]
      rw [if_pos c1, Nat.add_assoc]
    · rename_i m esz g sz ag z ds k n h1 hx hi
      simp only [Option.some.injEq, Prod.mk.injEq] at h
      obtain ⟨rfl, rfl⟩ := h
      obtain ⟨c1, _⟩ := hc
      refine valP_pure ?_
      simp only [pureOp, E, h1, hx, hi, emb]
      rw [if_pos c1, embC_drop]
    · cases h
  · -- index
    split at h
    · rename_i m esz g sz ag z ds k n h1 hx hi
      split at h
      · rename_i w hw
        simp only [Option.some.injEq, Prod.mk.injEq] at h
        obtain ⟨rfl, rfl⟩ := h
        obtain ⟨c1, _⟩ := hc
        refine valP_pure ?_
        simp only [pureOp, E, h1, hx, hi, emb]
        rw [if_pos c1]
        exact tpart_emb R hw
      · cases h
    · rename_i sz ag z s k n h1 hx hi
      simp only [Option.some.injEq, Prod.mk.injEq] at h
      obtain ⟨rfl, rfl⟩ := h
      obtain ⟨⟨c1, c2⟩, _⟩ := hc
      obtain ⟨e1, e2⟩ := sat_eq (s := s) (i := n.toNat) (by omega)
      refine valP_pure ?_
      simp only [pureOp, E, h1, hx, hi, emb]
      rw [if_pos c1, e1]
      simp only [e2]
    · cases h
  · -- build
    split at h
    · rename_i fs sz ag z h1
      cases hf : flatL z with
      | false => rw [hf] at h; cases h
      | true =>
        rw [hf] at h
        simp only [cond_true] at h
        split at h
        · rename_i ds hd
          simp only [Option.some.injEq, Prod.mk.injEq] at h
          obtain ⟨_, rfl⟩ := h
          refine valP_pure ?_
          have := tfill_emb R _ _ _ _ hd
          rw [embC_up R z hf] at this
          simp only [nth_eq] at this
          simp only [pureOp, h1, parts_emb (R := R), this]
          rfl
        · cases h
    · rename_i n esz g sz ag z h1
      cases hf : flatL z with
      | false => rw [hf] at h; cases h
      | true =>
        rw [hf] at h
        simp only [cond_true] at h
        split at h
        · rename_i ds hd
          simp only [Option.some.injEq, Prod.mk.injEq] at h
          obtain ⟨_, rfl⟩ := h
          refine valP_pure ?_
          have := tfill_emb R _ _ _ _ hd
          rw [embC_up R z hf] at this
          simp only [pureOp, h1, parts_emb (R := R), this]
          rfl
        · cases h
    · cases h
  · -- slice
    split at h
    · rename_i esz eb ez sz ag z e xs h1 hx
      split at h
      · rename_i l r hl hr
        cases hb : Nat.beq (R.sz e) esz with
        | false => rw [hb] at h; cases h
        | true =>
          rw [hb] at h
          simp only [cond_true, Option.some.injEq, Prod.mk.injEq] at h
          obtain ⟨rfl, rfl⟩ := h
          obtain ⟨c1, _⟩ := hc
          obtain ⟨s1, s2⟩ := sub_eq hl hr c1
          refine valP_pure ?_
          simp only [pureOp, E, h1, hx, emb]
          rw [if_neg (by rw [Nat.eq_of_beq_eq_true hb]; simp)]
          unfold sliceBnds
          rw [loI_emb R hl, hiI_emb R hr]
          simp only
          rw [if_pos c1]
          simp only [Option.some.injEq, LV.ps.injEq, true_and]
          rw [s2, s1]
          refine ⟨rfl, ?_⟩
          rw [fm_drop (hR.len e), fm_take (hR.len e)]
      · cases h
    · rename_i esz eb ez sz ag z ss q o len h1 hx
      split at h
      · rename_i l r hl hr
        cases hb : Nat.beq ss esz with
        | false => rw [hb] at h; cases h
        | true =>
          rw [hb] at h
          simp only [cond_true, Option.some.injEq, Prod.mk.injEq] at h
          obtain ⟨rfl, rfl⟩ := h
          obtain ⟨c1, _⟩ := hc
          refine valP_pure ?_
          simp only [pureOp, E, h1, hx, emb]
          rw [if_neg (by rw [Nat.eq_of_beq_eq_true hb]; simp)]
          unfold sliceBnds
          rw [loI_emb R hl, hiI_emb R hr]
          simp only
          rw [if_pos c1]
          simp only [Option.some.injEq, LV.sl.injEq, true_and]
          obtain ⟨k1, k2⟩ := subs_eq (o := o) hl hr c1
          rw [k1, k2, Nat.add_mul]
          exact ⟨by omega, rfl⟩
      · cases h
    · rename_i esz eb ez sz ag z h1 hx
      split at h
      · rename_i l r hl hr
        simp only [Option.some.injEq, Prod.mk.injEq] at h
        obtain ⟨rfl, rfl⟩ := h
        obtain ⟨c1, _⟩ := hc
        refine valP_pure ?_
        simp only [pureOp, E, h1, hx, emb]
        unfold sliceBnds
        rw [loI_emb R hl, hiI_emb R hr]
        simp only
        rw [if_pos (by simpa using c1)]
      · cases h
    · rename_i sz ag z s h1 hx
      split at h
      · rename_i l r hl hr
        simp only [Option.some.injEq, Prod.mk.injEq] at h
        obtain ⟨rfl, rfl⟩ := h
        obtain ⟨c1, _⟩ := hc
        refine valP_pure ?_
        simp only [pureOp, E, h1, hx, emb]
        unfold sliceBnds
        rw [loI_emb R hl, hiI_emb R hr]
        simp only
        rw [if_pos c1]
      · cases h
    · cases h
  · -- len
    split at h
    · rename_i t x ht hx0
      split at h
      all_goals first | (cases h; done) | skip
      all_goals
        simp only [Option.some.injEq, Prod.mk.injEq] at h
        obtain ⟨rfl, rfl⟩ := h
        refine valP_pure ?_
        simp only [pureOp, ht, hx0, Option.bind_some, Option.map_some, E]
      all_goals first
        | (rename_i h1 hx; simp only [h1, hx, emb]; done)
        | (rename_i h1; simp only [h1, emb]; done)
        | (rename_i h1 _; simp only [h1, emb]; done)
        | (rename_i h1 hx; simp only [h1, hx, emb]; simp; done)
    · cases h
  · split at h
    · rename_i x r hl
      split at h
      · rename_i w hw
        simp only [Option.some.injEq, Prod.mk.injEq] at h
        obtain ⟨_, rfl⟩ := h
        refine valP_pure ?_
        simp only [pureOp, embL_eq (R := R), hl, embC, embC_eq]
        exact tmin_emb R _ _ _ hw
      · cases h
    · cases h
  · split at h
    · rename_i x r hl
      split at h
      · rename_i w hw
        simp only [Option.some.injEq, Prod.mk.injEq] at h
        obtain ⟨_, rfl⟩ := h
        refine valP_pure ?_
        simp only [pureOp, embL_eq (R := R), hl, embC, embC_eq]
        exact tmax_emb R _ _ _ hw
      · cases h
    · cases h
  · -- load
    refine valP_load ?_
    split at h
    · rename_i ti r o h1 hx
      split at h
      · rename_i ds hr
        split at h
        · rename_i w hw
          simp only [Option.some.injEq, Prod.mk.injEq] at h
          obtain ⟨_, rfl⟩ := h
          simp only [loadOp, E, h1, hx, emb, row_emb R hr, embR]
          exact tpart_emb R hw
        · cases h
      · cases h
    · rename_i ti ss r i o h1 hx
      split at h
      · rename_i e xs hr
        cases hb : Nat.beq ss (R.sz e) with
        | false => rw [hb] at h; cases h
        | true =>
          rw [hb] at h
          simp only [cond_true] at h
          split at h
          · rename_i w hw
            simp only [Option.some.injEq, Prod.mk.injEq] at h
            obtain ⟨rfl, rfl⟩ := h
            obtain ⟨c1, _⟩ := hc
            have he := Nat.eq_of_beq_eq_true hb
            simp only [loadOp, E, h1, hx, emb, row_emb R hr, embR]
            obtain ⟨s1, s2⟩ := fm_split (hR.len e) c1
            rw [s1, he, ← s2]
            refine lpart_mid ?_
            have := tpart_emb R hw
            rwa [hR.ok, getD_get _ c1] at this
          · cases h
      · cases h
    · rename_i ti ds h1 hx
      split at h
      · rename_i w hw
        simp only [Option.some.injEq, Prod.mk.injEq] at h
        obtain ⟨_, rfl⟩ := h
        simp only [loadOp, E, h1, hx, emb]
        exact tpart_emb R hw
      · cases h
    · cases h
  · -- pick, or
    split at h
    · rename_i p q hp hq
      simp only [Option.some.injEq, Prod.mk.injEq] at h
      obtain ⟨rfl, rfl⟩ := h
      refine valP_pure ?_
      simp only [pureOp, E, hp, hq, emb]
      cases p <;> simp [tO, constLV, scalarLV, upC, emb]
    · rename_i p g q hp hq
      simp only [Option.some.injEq, Prod.mk.injEq] at h
      obtain ⟨rfl, rfl⟩ := h
      refine valP_pure ?_
      simp only [pureOp, E, hp, hq, emb]
      cases p
      · have := hc.1 rfl; subst this; simp
      · simp [tO, constLV, scalarLV, upC, emb]
    · cases h
  · -- pick, and
    split at h
    · rename_i p q hp hq
      simp only [Option.some.injEq, Prod.mk.injEq] at h
      obtain ⟨rfl, rfl⟩ := h
      refine valP_pure ?_
      simp only [pureOp, E, hp, hq, emb]
      cases p <;> simp [tO, constLV, scalarLV, upC, emb]
    · rename_i p g q hp hq
      simp only [Option.some.injEq, Prod.mk.injEq] at h
      obtain ⟨rfl, rfl⟩ := h
      refine valP_pure ?_
      simp only [pureOp, E, hp, hq, emb]
      cases p
      · simp [tO, constLV, scalarLV, upC, emb]
      · have := hc.1 rfl; subst this; simp
    · cases h
  · exact hg h

end
end Go.Lite
