import Derived.Test.YtcgimnafomnjcaaYT1b
import Derived.Test.YtcgimnafomnjcaaZAwI
set_option linter.unusedVariables false
set_option linter.unusedSimpArgs false
set_option maxRecDepth 20000
namespace Go.Proofs.Ytcgimnafomnjcaa
open Go.Aw
section
variable {N : Nat} {ops : Array Oper} {K : Fr → Hp → Prop} {o : Oper} {l : List Oper} {α α' : List (Nat × AV)} {H H' ch : List (Nat × Blk)} {v v' : AV} {d : Nat} {S : List Nat} {pre : List (List Nat × List Nat)}
theorem x_q (hg : guardA ops (lkF α) o = some true := by exact rfl) (hd : o.dst = some d := by exact rfl) (hN : Nat.blt d N = true := by exact rfl)
    (hq : QRun Try.prog o (opF o (lkF α) (lkH H)) [] (lkF α) (lkH H) v (lkH []) := by first | exact q_bne_same tyOk rfl rfl rfl rfl rfl | exact q_icmpK false rfl rfl rfl rfl (by (simp only [icmp]; first | (simp; done) | (simp; omega) | (apply decide_eq_false; omega))) | first | exact q_move _ (.inl rfl) | exact q_move _ (.inr rfl) | exact q_load_box tyOk rfl rfl rfl rfl rfl rfl rfl rfl | exact q_fld_bp tyOk rfl rfl rfl rfl rfl rfl | exact q_load_ref tyOk rfl rfl rfl rfl rfl | exact q_fld_ref tyOk rfl rfl rfl rfl rfl rfl | exact q_pick_t rfl rfl | exact q_pick_f rfl rfl | exact q_not rfl rfl | exact q_extract rfl rfl rfl | exact q_fcmp rfl rfl rfl rfl | exact q_farith rfl (by simp) rfl rfl | exact q_icmp rfl rfl rfl rfl | exact q_load_boxs tyOk rfl rfl rfl rfl rfl rfl rfl rfl | exact q_load_refs tyOk rfl rfl rfl rfl rfl rfl | exact q_beq tyOk rfl rfl rfl rfl rfl | exact q_bne tyOk rfl rfl rfl rfl rfl | exact q_nilchk_bp rfl rfl | exact q_nilchk_ref rfl rfl | exact q_len_fl tyOk rfl rfl rfl rfl | exact q_len_own tyOk rfl rfl rfl rfl | exact q_len_il tyOk rfl rfl rfl rfl | exact q_len_bl tyOk rfl rfl rfl rfl | exact q_len_ffl tyOk rfl rfl rfl rfl | exact q_cv_if tyOk rfl rfl rfl rfl rfl | exact q_add rfl rfl rfl (by omega) | exact q_sub rfl rfl rfl (by omega) | exact q_idx_tree _ tyOk rfl rfl rfl rfl rfl rfl rfl rfl (by first | rfl | exact (Int.natCast_add _ _).symm | omega) (by first | omega | (simp only [T.len]; omega) | assumption) | exact q_idx_own _ tyOk rfl rfl rfl rfl rfl rfl rfl (by first | rfl | exact (Int.natCast_add _ _).symm | omega) (by first | omega | (simp only [T.len]; omega) | assumption) | exact q_load_el tyOk rfl rfl rfl rfl rfl rfl rfl (by first | omega | (simp only [T.len]; omega) | assumption) | exact q_fneg rfl rfl | exact q_fmax rfl rfl rfl | exact q_imax rfl rfl rfl | exact q_imin rfl rfl rfl | exact q_fn rfl | exact q_cv_ff tyOk rfl rfl rfl rfl rfl (by decide) rfl (fconv_any _) | exact q_cv_same tyOk rfl rfl rfl rfl rfl rfl) (hv : v = v' := by first | exact nf_f rfl | exact nf_b rfl | exact nf_i rfl | exact nf_bp rfl | exact nf_own rfl | exact nf_argo rfl | exact nf_arg rfl | exact nf_argc rfl | exact nf_fl rfl | exact nf_ofl rfl | exact nf_oref rfl | exact nf_tref rfl | exact nf_s rfl | exact nf_t rfl | exact nf_old rfl | exact nf_junk rfl | exact nf_dead rfl | exact nf_tup rfl | (simp only [resV, resVl, scrubL, scrub, List.map, List.drop, List.take, mkT, zA, cellsA, cid, cids, relab, sg, List.getD, List.append, List.cons_append, List.nil_append, Nat.reduceMul, Nat.reduceAdd, Array.toList, T.get, cond_true, cond_false]; rfl) | rfl) (h : LexD Try.prog N ops false K [] l (lkF ((d, v') :: α)) (lkH H)) : LexD Try.prog N ops false K [] (o :: l) (lkF α) (lkH H) := px_q hg hd hN hq hv h
theorem xd_q (hg : guardA ops (lkF α) o = some true := by exact rfl) (hd : o.dst = some d := by exact rfl) (hN : Nat.blt d N = true := by exact rfl)
    (hq : QRun Try.prog o (opF o (lkF α) (lkH H)) [] (lkF α) (lkH H) v (lkH []) := by first | exact q_bne_same tyOk rfl rfl rfl rfl rfl | exact q_icmpK false rfl rfl rfl rfl (by (simp only [icmp]; first | (simp; done) | (simp; omega) | (apply decide_eq_false; omega))) | first | exact q_move _ (.inl rfl) | exact q_move _ (.inr rfl) | exact q_load_box tyOk rfl rfl rfl rfl rfl rfl rfl rfl | exact q_fld_bp tyOk rfl rfl rfl rfl rfl rfl | exact q_load_ref tyOk rfl rfl rfl rfl rfl | exact q_fld_ref tyOk rfl rfl rfl rfl rfl rfl | exact q_pick_t rfl rfl | exact q_pick_f rfl rfl | exact q_not rfl rfl | exact q_extract rfl rfl rfl | exact q_fcmp rfl rfl rfl rfl | exact q_farith rfl (by simp) rfl rfl | exact q_icmp rfl rfl rfl rfl | exact q_load_boxs tyOk rfl rfl rfl rfl rfl rfl rfl rfl | exact q_load_refs tyOk rfl rfl rfl rfl rfl rfl | exact q_beq tyOk rfl rfl rfl rfl rfl | exact q_bne tyOk rfl rfl rfl rfl rfl | exact q_nilchk_bp rfl rfl | exact q_nilchk_ref rfl rfl | exact q_len_fl tyOk rfl rfl rfl rfl | exact q_len_own tyOk rfl rfl rfl rfl | exact q_len_il tyOk rfl rfl rfl rfl | exact q_len_bl tyOk rfl rfl rfl rfl | exact q_len_ffl tyOk rfl rfl rfl rfl | exact q_cv_if tyOk rfl rfl rfl rfl rfl | exact q_add rfl rfl rfl (by omega) | exact q_sub rfl rfl rfl (by omega) | exact q_idx_tree _ tyOk rfl rfl rfl rfl rfl rfl rfl rfl (by first | rfl | exact (Int.natCast_add _ _).symm | omega) (by first | omega | (simp only [T.len]; omega) | assumption) | exact q_idx_own _ tyOk rfl rfl rfl rfl rfl rfl rfl (by first | rfl | exact (Int.natCast_add _ _).symm | omega) (by first | omega | (simp only [T.len]; omega) | assumption) | exact q_load_el tyOk rfl rfl rfl rfl rfl rfl rfl (by first | omega | (simp only [T.len]; omega) | assumption) | exact q_fneg rfl rfl | exact q_fmax rfl rfl rfl | exact q_imax rfl rfl rfl | exact q_imin rfl rfl rfl | exact q_fn rfl | exact q_cv_ff tyOk rfl rfl rfl rfl rfl (by decide) rfl (fconv_any _) | exact q_cv_same tyOk rfl rfl rfl rfl rfl rfl) (hv : v = v' := by first | exact nf_f rfl | exact nf_b rfl | exact nf_i rfl | exact nf_bp rfl | exact nf_own rfl | exact nf_argo rfl | exact nf_arg rfl | exact nf_argc rfl | exact nf_fl rfl | exact nf_ofl rfl | exact nf_oref rfl | exact nf_tref rfl | exact nf_s rfl | exact nf_t rfl | exact nf_old rfl | exact nf_junk rfl | exact nf_dead rfl | exact nf_tup rfl | (simp only [resV, resVl, scrubL, scrub, List.map, List.drop, List.take, mkT, zA, cellsA, cid, cids, relab, sg, List.getD, List.append, List.cons_append, List.nil_append, Nat.reduceMul, Nat.reduceAdd, Array.toList, T.get, cond_true, cond_false]; rfl) | rfl) (hf : footB (opF o (lkF α) (lkH H)) [] [] (o.op.operands.toList.map (evA (lkF α))) (lkH H) v' [] = true := by kernel_rfl)
    (h : LexD Try.prog N ops true K ((opF o (lkF α) (lkH H), []) :: pre) l (lkF ((d, v') :: α)) (lkH H)) : LexD Try.prog N ops true K pre (o :: l) (lkF α) (lkH H) := dx_q hg hd hN hq hv hf h
end
end Go.Proofs.Ytcgimnafomnjcaa

set_option linter.unusedVariables false
set_option linter.unusedSimpArgs false
set_option maxRecDepth 20000
namespace Go.Proofs.Ytcgimnafomnjcaa
open Go.Aw
attribute [local irreducible] QRun LexD AWp TCall

theorem ext64 : ExtOk Try.prog 213 Extern.MathFloatBits.float64bits := ⟨fun args w => by
  have hf := Try.func213
  have h1 : (Try.f213.name == "runtime.NumGoroutine") = false := by kernel_rfl
  have h2 : Try.f213.body = none := by kernel_rfl
  have h3 : Extern.findNext Try.f213 = none := by kernel_rfl
  have h4 : Extern.find Try.f213 = some Extern.MathFloatBits.float64bits := by kernel_rfl
  simp only [callFunc, Sem.run_bind, run_program, Result.andThen_ok, hf]
  simp only [h1, h2, Bool.false_eq_true, if_false]
  simp [h3, h4]⟩

theorem order_self {k : FloatKind} {c : Nat} : k.format.order c c = if isNan k c then none else some .eq := by
  cases hc : isNan k c with
  | true => rw [order_nan_left hc]; rfl
  | false =>
    have hn : ∀ s t, k.format.read c ≠ .nan s t := fun s t h => by
      have := (isNan_iff k c).2 ⟨s, t, h⟩; rw [hc] at this; cases this
    unfold Ieee.Format.order
    cases hd : k.format.read c with
    | nan s t => exact absurd hd (hn s t)
    | infinity s => cases s <;> simp [Ieee.Datum.order]
    | number s m e => simp [Ieee.Datum.order]
theorem neq_self {k : FloatKind} {c : Nat} : fcmp .neq k c c = isNan k c := by
  simp only [fcmp, order_self]; cases isNan k c <;> simp

def bits (c : Nat) : Int := if fcmp .neq .f32 c c then 2143289344 else IntKind.i64.wrap c
end Go.Proofs.Ytcgimnafomnjcaa

