import Derived.Test.YtmnpdipiffmnhaaVT58
import Derived.Test.YtmnpdipiffmnhaaVT28
import Derived.Test.YtmnpdipiffmnhaaVAwC
import Derived.Test.YtmnpdipiffmnhaaVT60
import Derived.Test.YtmnpdipiffmnhaaVT2
import Derived.Test.YtmnpdipiffmnhaaVT59
set_option linter.unusedVariables false
set_option linter.unusedSimpArgs false
set_option maxRecDepth 20000
set_option maxHeartbeats 8000000
namespace Go.Proofs.Ytmnpdipiffmnhaa
open Go.Aw
attribute [local irreducible] QRun LexD AWp TCall TMut fop fint fcmp fconv

theorem isPeriodOf_c (l : List Nat) (p : Int) (hl : l.length ≤ 9223372036854775807) : TCall Try.prog 197 [.fl l, .v (.int .i64 p)] (.t (.v (.bool (isSer l && inR p 1 (l.length : Nat))))) [] := by
  refine tcall_of Try.func197 rfl (by kernel_rfl) (Nat.le_of_ble_eq_true rfl) rfl ?_
  simp only [argsL, argAV, argCs, argS]
  repeat (first | (refine w_q (h := ?_)) | (refine w_s (h := ?_)) | (refine w_t (h := ?_)) | (refine w_k (h := ?_)) | (refine y_q (h := ?_)) | (refine y_s (h := ?_)) | (refine y_t (h := ?_)) | (refine y_k (h := ?_)) | (refine lex_nil (by kernel_rfl) ?_) | (refine awp_sq ?_) | (refine awp_rg ?_) | (refine awp_rd (by kernel_rfl) (by kernel_rfl) ?_) | (refine awp_block ?_) | (refine awp_exit ?_) | (refine awp_ret ?_) | (refine awp_skip ?_))
  (first | (refine c_q (implSer_c l hl) (h := ?_)) | (refine z_q (implSer_c l hl) (h := ?_)))
  repeat (first | (refine w_q (h := ?_)) | (refine w_s (h := ?_)) | (refine w_t (h := ?_)) | (refine w_k (h := ?_)) | (refine y_q (h := ?_)) | (refine y_s (h := ?_)) | (refine y_t (h := ?_)) | (refine y_k (h := ?_)) | (refine lex_nil (by kernel_rfl) ?_) | (refine awp_sq ?_) | (refine awp_rg ?_) | (refine awp_rd (by kernel_rfl) (by kernel_rfl) ?_) | (refine awp_block ?_) | (refine awp_exit ?_) | (refine awp_ret ?_) | (refine awp_skip ?_))
  refine lex_if rfl rfl rfl (fun h => ?_) (fun h => ?_)
  · repeat (first | (refine w_q (h := ?_)) | (refine w_s (h := ?_)) | (refine w_t (h := ?_)) | (refine w_k (h := ?_)) | (refine y_q (h := ?_)) | (refine y_s (h := ?_)) | (refine y_t (h := ?_)) | (refine y_k (h := ?_)) | (refine lex_nil (by kernel_rfl) ?_) | (refine awp_sq ?_) | (refine awp_rg ?_) | (refine awp_rd (by kernel_rfl) (by kernel_rfl) ?_) | (refine awp_block ?_) | (refine awp_exit ?_) | (refine awp_ret ?_) | (refine awp_skip ?_))
    (first | (refine c_q (within_c _ _ _) (h := ?_)) | (refine z_q (within_c _ _ _) (h := ?_)))
    repeat (first | (refine w_q (h := ?_)) | (refine w_s (h := ?_)) | (refine w_t (h := ?_)) | (refine w_k (h := ?_)) | (refine y_q (h := ?_)) | (refine y_s (h := ?_)) | (refine y_t (h := ?_)) | (refine y_k (h := ?_)) | (refine lex_nil (by kernel_rfl) ?_) | (refine awp_sq ?_) | (refine awp_rg ?_) | (refine awp_rd (by kernel_rfl) (by kernel_rfl) ?_) | (refine awp_block ?_) | (refine awp_exit ?_) | (refine awp_ret ?_) | (refine awp_skip ?_))
    refine ret_ok tyOk (by first | exact .inr rfl | exact .inl rfl) pi0 rfl (by first | exact .cons (by first | exact .tmp | exact .cell rfl rfl rfl rfl rfl rfl | exact .cell1 rfl rfl rfl rfl rfl) .nil | exact .cons (by first | exact .tmp | exact .cell rfl rfl rfl rfl rfl rfl | exact .cell1 rfl rfl rfl rfl rfl) (.cons (by first | exact .tmp | exact .cell rfl rfl rfl rfl rfl rfl | exact .cell1 rfl rfl rfl rfl rfl) .nil) | exact .cons (by first | exact .tmp | exact .cell rfl rfl rfl rfl rfl rfl | exact .cell1 rfl rfl rfl rfl rfl) (.cons (by first | exact .tmp | exact .cell rfl rfl rfl rfl rfl rfl | exact .cell1 rfl rfl rfl rfl rfl) (.cons (by first | exact .tmp | exact .cell rfl rfl rfl rfl rfl rfl | exact .cell1 rfl rfl rfl rfl rfl) .nil)) | exact .cons (by first | exact .tmp | exact .cell rfl rfl rfl rfl rfl rfl | exact .cell1 rfl rfl rfl rfl rfl) (.cons (by first | exact .tmp | exact .cell rfl rfl rfl rfl rfl rfl | exact .cell1 rfl rfl rfl rfl rfl) (.cons (by first | exact .tmp | exact .cell rfl rfl rfl rfl rfl rfl | exact .cell1 rfl rfl rfl rfl rfl) (.cons (by first | exact .tmp | exact .cell rfl rfl rfl rfl rfl rfl | exact .cell1 rfl rfl rfl rfl rfl) .nil)))) ?_ trivial (injO_0 _)
    repeat' (first | exact RetRelL.nil | (refine RetRel.nil rfl ?_) | refine RetRelL.cons ?_ ?_ | refine rr_tup ?_ | refine rr_agg ?_ | refine rr_own rfl ?_ | exact RetRel.arg | exact RetRel.argc | refine rr_t ?_)
    rw [h]; rfl
  · repeat (first | (refine w_q (h := ?_)) | (refine w_s (h := ?_)) | (refine w_t (h := ?_)) | (refine w_k (h := ?_)) | (refine y_q (h := ?_)) | (refine y_s (h := ?_)) | (refine y_t (h := ?_)) | (refine y_k (h := ?_)) | (refine lex_nil (by kernel_rfl) ?_) | (refine awp_sq ?_) | (refine awp_rg ?_) | (refine awp_rd (by kernel_rfl) (by kernel_rfl) ?_) | (refine awp_block ?_) | (refine awp_exit ?_) | (refine awp_ret ?_) | (refine awp_skip ?_))
    refine ret_ok tyOk (by first | exact .inr rfl | exact .inl rfl) pi0 rfl (by first | exact .cons (by first | exact .tmp | exact .cell rfl rfl rfl rfl rfl rfl | exact .cell1 rfl rfl rfl rfl rfl) .nil | exact .cons (by first | exact .tmp | exact .cell rfl rfl rfl rfl rfl rfl | exact .cell1 rfl rfl rfl rfl rfl) (.cons (by first | exact .tmp | exact .cell rfl rfl rfl rfl rfl rfl | exact .cell1 rfl rfl rfl rfl rfl) .nil) | exact .cons (by first | exact .tmp | exact .cell rfl rfl rfl rfl rfl rfl | exact .cell1 rfl rfl rfl rfl rfl) (.cons (by first | exact .tmp | exact .cell rfl rfl rfl rfl rfl rfl | exact .cell1 rfl rfl rfl rfl rfl) (.cons (by first | exact .tmp | exact .cell rfl rfl rfl rfl rfl rfl | exact .cell1 rfl rfl rfl rfl rfl) .nil)) | exact .cons (by first | exact .tmp | exact .cell rfl rfl rfl rfl rfl rfl | exact .cell1 rfl rfl rfl rfl rfl) (.cons (by first | exact .tmp | exact .cell rfl rfl rfl rfl rfl rfl | exact .cell1 rfl rfl rfl rfl rfl) (.cons (by first | exact .tmp | exact .cell rfl rfl rfl rfl rfl rfl | exact .cell1 rfl rfl rfl rfl rfl) (.cons (by first | exact .tmp | exact .cell rfl rfl rfl rfl rfl rfl | exact .cell1 rfl rfl rfl rfl rfl) .nil)))) ?_ trivial (injO_0 _)
    repeat' (first | exact RetRelL.nil | (refine RetRel.nil rfl ?_) | refine RetRelL.cons ?_ ?_ | refine rr_tup ?_ | refine rr_agg ?_ | refine rr_own rfl ?_ | exact RetRel.arg | exact RetRel.argc | refine rr_t ?_)
    rw [h]; rfl
end Go.Proofs.Ytmnpdipiffmnhaa

set_option linter.unusedVariables false
set_option linter.unusedSimpArgs false
set_option maxRecDepth 20000
set_option maxHeartbeats 8000000
namespace Go.Proofs.Ytmnpdipiffmnhaa
open Go.Aw
attribute [local irreducible] QRun LexD AWp TCall TMut fop fint fcmp fconv

/-! ### the state at the beginning -/
def perOk (l : List Nat) (p : Int) : Bool := isSer l && inR p 1 24 && decide (p ≤ l.length)
theorem isPeriod_c (l : List Nat) (p : Int) (hl : l.length ≤ 9223372036854775807) : TCall Try.prog 148 [.fl l, .v (.int .i64 p)] (.t (.v (.bool (perOk l p)))) [] := by
  have e : perOk l p = ((isSer l && inR p 1 (l.length : Nat)) && decide (p ≤ 24)) := by
    unfold perOk inR
    cases isSer l <;> simp
    by_cases h1 : 1 ≤ p <;> by_cases h2 : p ≤ 24 <;> by_cases h3 : p ≤ (l.length : Int) <;> simp [h1, h2, h3]
  rw [e]
  refine tcall_of Try.func148 rfl (by kernel_rfl) (Nat.le_of_ble_eq_true rfl) rfl ?_
  simp only [argsL, argAV, argCs, argS]
  repeat (first | (refine w_q (h := ?_)) | (refine w_s (h := ?_)) | (refine w_t (h := ?_)) | (refine w_k (h := ?_)) | (refine y_q (h := ?_)) | (refine y_s (h := ?_)) | (refine y_t (h := ?_)) | (refine y_k (h := ?_)) | (refine lex_nil (by kernel_rfl) ?_) | (refine awp_sq ?_) | (refine awp_rg ?_) | (refine awp_rd (by kernel_rfl) (by kernel_rfl) ?_) | (refine awp_block ?_) | (refine awp_exit ?_) | (refine awp_ret ?_) | (refine awp_skip ?_))
  (first | (refine c_q (isPeriodOf_c l p hl) (h := ?_)) | (refine z_q (isPeriodOf_c l p hl) (h := ?_)))
  repeat (first | (refine w_q (h := ?_)) | (refine w_s (h := ?_)) | (refine w_t (h := ?_)) | (refine w_k (h := ?_)) | (refine y_q (h := ?_)) | (refine y_s (h := ?_)) | (refine y_t (h := ?_)) | (refine y_k (h := ?_)) | (refine lex_nil (by kernel_rfl) ?_) | (refine awp_sq ?_) | (refine awp_rg ?_) | (refine awp_rd (by kernel_rfl) (by kernel_rfl) ?_) | (refine awp_block ?_) | (refine awp_exit ?_) | (refine awp_ret ?_) | (refine awp_skip ?_))
  refine lex_if rfl rfl rfl (fun h1 => ?_) (fun h1 => ?_)
  rotate_left
  · repeat (first | (refine w_q (h := ?_)) | (refine w_s (h := ?_)) | (refine w_t (h := ?_)) | (refine w_k (h := ?_)) | (refine y_q (h := ?_)) | (refine y_s (h := ?_)) | (refine y_t (h := ?_)) | (refine y_k (h := ?_)) | (refine lex_nil (by kernel_rfl) ?_) | (refine awp_sq ?_) | (refine awp_rg ?_) | (refine awp_rd (by kernel_rfl) (by kernel_rfl) ?_) | (refine awp_block ?_) | (refine awp_exit ?_) | (refine awp_ret ?_) | (refine awp_skip ?_))
    refine ret_ok tyOk (by first | exact .inr rfl | exact .inl rfl) pi0 rfl (by first | exact .cons (by first | exact .tmp | exact .cell rfl rfl rfl rfl rfl rfl | exact .cell1 rfl rfl rfl rfl rfl) .nil | exact .cons (by first | exact .tmp | exact .cell rfl rfl rfl rfl rfl rfl | exact .cell1 rfl rfl rfl rfl rfl) (.cons (by first | exact .tmp | exact .cell rfl rfl rfl rfl rfl rfl | exact .cell1 rfl rfl rfl rfl rfl) .nil) | exact .cons (by first | exact .tmp | exact .cell rfl rfl rfl rfl rfl rfl | exact .cell1 rfl rfl rfl rfl rfl) (.cons (by first | exact .tmp | exact .cell rfl rfl rfl rfl rfl rfl | exact .cell1 rfl rfl rfl rfl rfl) (.cons (by first | exact .tmp | exact .cell rfl rfl rfl rfl rfl rfl | exact .cell1 rfl rfl rfl rfl rfl) .nil)) | exact .cons (by first | exact .tmp | exact .cell rfl rfl rfl rfl rfl rfl | exact .cell1 rfl rfl rfl rfl rfl) (.cons (by first | exact .tmp | exact .cell rfl rfl rfl rfl rfl rfl | exact .cell1 rfl rfl rfl rfl rfl) (.cons (by first | exact .tmp | exact .cell rfl rfl rfl rfl rfl rfl | exact .cell1 rfl rfl rfl rfl rfl) (.cons (by first | exact .tmp | exact .cell rfl rfl rfl rfl rfl rfl | exact .cell1 rfl rfl rfl rfl rfl) .nil)))) ?_ trivial (injO_0 _)
    repeat' (first | exact RetRelL.nil | (refine RetRel.nil rfl ?_) | refine RetRelL.cons ?_ ?_ | refine rr_tup ?_ | refine rr_agg ?_ | refine rr_own rfl ?_ | exact RetRel.arg | exact RetRel.argc | refine rr_t ?_)
    first | rfl | (simp [icmp, h1]; done) | (simp at h1; simp [icmp, h1]; done) | (simp_all [icmp]; done) | (simp_all [icmp]; omega)
  repeat (first | (refine w_q (h := ?_)) | (refine w_s (h := ?_)) | (refine w_t (h := ?_)) | (refine w_k (h := ?_)) | (refine y_q (h := ?_)) | (refine y_s (h := ?_)) | (refine y_t (h := ?_)) | (refine y_k (h := ?_)) | (refine lex_nil (by kernel_rfl) ?_) | (refine awp_sq ?_) | (refine awp_rg ?_) | (refine awp_rd (by kernel_rfl) (by kernel_rfl) ?_) | (refine awp_block ?_) | (refine awp_exit ?_) | (refine awp_ret ?_) | (refine awp_skip ?_))
  refine ret_ok tyOk (by first | exact .inr rfl | exact .inl rfl) pi0 rfl (by first | exact .cons (by first | exact .tmp | exact .cell rfl rfl rfl rfl rfl rfl | exact .cell1 rfl rfl rfl rfl rfl) .nil | exact .cons (by first | exact .tmp | exact .cell rfl rfl rfl rfl rfl rfl | exact .cell1 rfl rfl rfl rfl rfl) (.cons (by first | exact .tmp | exact .cell rfl rfl rfl rfl rfl rfl | exact .cell1 rfl rfl rfl rfl rfl) .nil) | exact .cons (by first | exact .tmp | exact .cell rfl rfl rfl rfl rfl rfl | exact .cell1 rfl rfl rfl rfl rfl) (.cons (by first | exact .tmp | exact .cell rfl rfl rfl rfl rfl rfl | exact .cell1 rfl rfl rfl rfl rfl) (.cons (by first | exact .tmp | exact .cell rfl rfl rfl rfl rfl rfl | exact .cell1 rfl rfl rfl rfl rfl) .nil)) | exact .cons (by first | exact .tmp | exact .cell rfl rfl rfl rfl rfl rfl | exact .cell1 rfl rfl rfl rfl rfl) (.cons (by first | exact .tmp | exact .cell rfl rfl rfl rfl rfl rfl | exact .cell1 rfl rfl rfl rfl rfl) (.cons (by first | exact .tmp | exact .cell rfl rfl rfl rfl rfl rfl | exact .cell1 rfl rfl rfl rfl rfl) (.cons (by first | exact .tmp | exact .cell rfl rfl rfl rfl rfl rfl | exact .cell1 rfl rfl rfl rfl rfl) .nil)))) ?_ trivial (injO_0 _)
  repeat' (first | exact RetRelL.nil | (refine RetRel.nil rfl ?_) | refine RetRelL.cons ?_ ?_ | refine rr_tup ?_ | refine rr_agg ?_ | refine rr_own rfl ?_ | exact RetRel.arg | exact RetRel.argc | refine rr_t ?_)
  first | rfl | (simp [icmp, h1]; done) | (simp at h1; simp [icmp, h1]; done) | (simp_all [icmp]; done) | (simp_all [icmp]; omega)
end Go.Proofs.Ytmnpdipiffmnhaa

set_option linter.unusedVariables false
set_option linter.unusedSimpArgs false
set_option maxRecDepth 100000
set_option maxHeartbeats 8000000
namespace Go.Proofs.Ytmnpdipiffmnhaa
open Go.Aw
open Go.RowKit (Below)

/-! ### what a call has made, as data from then on -/
theorem own_fl {args : List Value} {w w' : World} {μ : Nat → Option Nat} {ok : Nat → Prop} {e : TypeId} {l : List Nat} {n : Nat} {y : Value} (hc : HC ⟨args, w.heap.size, noLoan⟩ w μ (lkH [(0, .sl e (.fl l))]) w') (hr : RRel args w' μ ok (.own 0 n) y) (hn : n = l.length) :
    TR w' (okF ⟨args, w.heap.size, noLoan⟩ (okOf (fun _ => none) (lkH []))) (.fl l) y := by
  rw [TR]
  refine gf_fl ?_
  rw [RRel.eq_def] at hr
  simp only [] at hr
  rw [TR]
  obtain ⟨hsl, hB⟩ := hc.blk 0 _ rfl
  rcases hr with ⟨h1, h2, rfl⟩ | ⟨b, cap, e1, m, hb, rfl, hs, hcap, hle⟩
  · exact ⟨none, 0, 0, rfl, by omega, Nat.le_refl _, .inl rfl⟩
  · rcases hB with ⟨h0, _⟩ | ⟨b', cs, hb', hbase, hw, hlen, hcs⟩
    · rw [h0] at hb; cases hb
    · rw [hb] at hb'; cases hb'
      rw [size_shape hw] at hs; cases hs
      refine ⟨_, _, _, rfl, hn, hle, .inr ⟨b, cs, e, rfl, (Array.getElem?_eq_some_iff.1 hw).1, ⟨fun i hi => by simp [lkH] at hi, hbase.elim .inl False.elim⟩, hw, hcap, fun i hi => ?_⟩⟩
      have hi' : i < l.length := by omega
      obtain ⟨x, hx, hr⟩ := ((TRl_iff ..).1 hcs).2 i (.f .f32 l[i]) (by simp [T.elems, hi'])
      rw [List.getElem?_take] at hx
      split at hx
      · rw [TR] at hr
        obtain ⟨z, rfl, hf⟩ := hr
        exact ⟨z, by simpa using hx, by simpa [List.getD_eq_getElem?_getD, hi'] using hf⟩
      · cases hx
theorem hc_none {args : List Value} {w w' : World} {μ : Nat → Option Nat} {η : Hp} (hc : HC ⟨args, w.heap.size, noLoan⟩ w μ η w') : HC ⟨args, w.heap.size, noLoan⟩ w (fun _ => none) (lkH []) w' :=
  ⟨hc.base, hc.below, fun i B hB => by simp [lkH] at hB, fun i j b hi => by simp [lkH] at hi⟩
theorem dat_f {args : List Value} {w : World} {μ : Nat → Option Nat} {ok ok' : Nat → Prop} {k : FloatKind} {c : Nat} {y : Value} (h : RRel args w μ ok (.t (.f k c)) y) : TR w ok' (.f k c) y := by
  rw [RRel, TR] at h; rw [TR]; exact h
theorem dat_v {args : List Value} {w : World} {μ : Nat → Option Nat} {ok ok' : Nat → Prop} {v y : Value} (h : RRel args w μ ok (.t (.v v)) y) : TR w ok' (.v v) y := by
  rw [RRel, TR] at h; rw [TR]; exact h
theorem rst_data {args : List Value} {w w' : World} {μ : Nat → Option Nat} {ok : Nat → Prop} {e : TypeId} {s : ST} {y : Value} (hc : HC ⟨args, w.heap.size, noLoan⟩ w μ (lkH [(0, .sl e (.fl s.se))]) w') (hr : RRel args w' μ ok (Rst 0 s) y) :
    TR w' (okF ⟨args, w.heap.size, noLoan⟩ (okOf (fun _ => none) (lkH []))) (Tst s) y := by
  rw [RRel] at hr
  obtain ⟨xs, rfl, hr⟩ := hr
  simp only [RRell] at hr
  obtain ⟨x1, r1, e1, h1, x2, r2, e2, h2, x3, r3, e3, h3, x4, r4, e4, h4, e5⟩ := hr
  rw [TR]
  refine ⟨xs, rfl, ?_⟩
  rw [e1, e2, e3, e4, e5]
  simp only [TRl]
  exact ⟨_, _, rfl, dat_f h1, _, _, rfl, dat_f h2, _, _, rfl, own_fl hc h3 rfl, _, _, rfl, dat_v h4, rfl⟩
theorem tcall_rst {P : Program} {f : FuncId} {ts : List T} {e : TypeId} {s : ST} (h : TCall P f ts (Rst 0 s) [(0, .sl e (.fl s.se))]) : TCall P f ts (.t (Tst s)) [] := by
  refine ⟨h.1, fun w args ha => (h.2 w args ha).mono ?_⟩
  rintro e' w' ⟨y, μ, rfl, hc, hr⟩
  refine ⟨y, fun _ => none, rfl, hc_none hc, ?_⟩
  rw [RRel]
  exact rst_data hc hr
theorem tcall_rst3 {P : Program} {f : FuncId} {ts : List T} {e : TypeId} {s : ST} {k : FloatKind} {c : Nat} {v : Value} (h : TCall P f ts (.tup [Rst 0 s, .t (.f k c), .t (.v v)]) [(0, .sl e (.fl s.se))]) : TCall P f ts (.tup [.t (Tst s), .t (.f k c), .t (.v v)]) [] := by
  refine ⟨h.1, fun w args ha => (h.2 w args ha).mono ?_⟩
  rintro e' w' ⟨y, μ, rfl, hc, hr⟩
  refine ⟨y, fun _ => none, rfl, hc_none hc, ?_⟩
  rw [RRel] at hr
  obtain ⟨xs, rfl, hr⟩ := hr
  rw [RRell] at hr
  obtain ⟨x1, r1, e1, h1, hr⟩ := hr
  simp only [RRell] at hr
  obtain ⟨x2, r2, e2, h2, x3, r3, e3, h3, e4⟩ := hr
  rw [RRel]
  refine ⟨xs, rfl, ?_⟩
  rw [e1, e2, e3, e4]
  simp only [RRell, RRel]
  exact ⟨_, _, rfl, rst_data hc h1, _, _, rfl, dat_f h2, _, _, rfl, dat_v h3, rfl⟩
theorem tcall_fl2 {P : Program} {f : FuncId} {ts : List T} {e : TypeId} {l : List Nat} {n : Nat} {v : Value} (h : TCall P f ts (.tup [.own 0 n, .t (.v v)]) [(0, .sl e (.fl l))]) (hn : n = l.length) : TCall P f ts (.tup [.t (.fl l), .t (.v v)]) [] := by
  refine ⟨h.1, fun w args ha => (h.2 w args ha).mono ?_⟩
  rintro e' w' ⟨y, μ, rfl, hc, hr⟩
  refine ⟨y, fun _ => none, rfl, hc_none hc, ?_⟩
  rw [RRel] at hr
  obtain ⟨xs, rfl, hr⟩ := hr
  simp only [RRell] at hr
  obtain ⟨x1, r1, e1, h1, x2, r2, e2, h2, e3⟩ := hr
  rw [RRel]
  refine ⟨xs, rfl, ?_⟩
  rw [e1, e2, e3]
  simp only [RRell, RRel]
  exact ⟨_, _, rfl, own_fl hc h1 hn, _, _, rfl, dat_v h2, rfl⟩

/-- append to nil -/
theorem q_app_nil {P : Program} {o : Oper} {F : List Nat} {ρ : Fr} {η : Hp} {ty : Ty} {t u : TypeId} {e eu : TE} {tys : Array TypeId} {s x : Operand} {d : Nat} {c2 : T} (hT : TyOk P ty) (ho : o.op = .call { callee := .builtin .append, args := #[s, x], argTypes := tys }) (htys : tys = #[t, t]) (hd : o.dst = some d)
    (ht : ty.get t = some e) (hsl : e.d = .sl u) (hu : ty.get u = some eu) (hs1 : eu.size = 1) (hz1 : eu.z.oneCell' = true)
    (hs : evA ρ s = .t (.v (.slice none 0 0))) (hx : Src F η (evA ρ x) c2) (hc2 : c2.isSl = true) (hone : c2.elems.all oneT = true ∨ c2.flat = true ∨ ∃ l, c2 = .ffl l) (h0 : 0 < c2.len)
    (hb : c2.len * eu.bytes ≤ 140737488355328) (hb2 : c2.len ≤ 140737488355328) :
    QRun P o F [d] ρ η (.own d 0 c2.len) (lkH [(d, .sl u c2)]) := by
  intro vs w0 μ η' a w Q K h1 h2 h3 h4
  subst htys
  have hs' := h3 s (by simp [ho, Op.operands, Call.operands])
  have hx' := h3 x (by simp [ho, Op.operands, Call.operands])
  obtain ⟨ax, cp, news, hxv, hl, hnews, hf⟩ := src_spec (P := P) hx hc2 h1 h2 hx'
  have h1news := oneT_elems hnews hone
  obtain ⟨inf, hinf, g1, g2, g3⟩ := (hT.get hu).info
  have hus := (hT.get ht).slice hsl
  rw [hs1] at g1
  rw [← g2] at hb
  rw [hs, VR, TR] at hs'
  obtain ⟨a0, hsv⟩ : ∃ a0, a.eval s = .slice a0 0 0 := ⟨none, hs'⟩
  have hfo : (Builtin.firstCells 1 0 (a.eval s)).run P w.drew = .ok ([] : List Value).toArray w.drew := by
    rw [hsv]
    cases a0 with
    | none => simp [Builtin.firstCells]
    | some a => simp [Builtin.firstCells, loadCells, loadCellsFrom]
  have hr := run_app_grow (P := P) w (ty' := o.type) hus hinf g3 g1 hsv hfo hxv (hf (w.drawn + 1)) (by omega) (by simpa using hb) (by simpa using hb2)
  simp only [Nat.zero_add] at hr
  have hexec : (execOp a.eval o).run P w = (Result.ok (.slice (some ⟨w.heap.size, 0, none⟩) c2.len (grownCap w c2.len 0 u)) (w.drew.alloc (.cells (([] : List Value).toArray ++ news.toArray ++ Builtin.zeroCells eu.z.cells (grownCap w c2.len 0 u - c2.len)) u))).andThen fun v w' => .ok (.value v) w' := by
    simp [execOp, ho, resolve, invoke, builtin, hr]
  let cs := ([] : List Value).toArray ++ news.toArray ++ Builtin.zeroCells eu.z.cells (grownCap w c2.len 0 u - c2.len)
  have hbel : Below w.heap.size w (w.drew.alloc (.cells cs u)) := ((Below.refl _ _).drew).alloc (Nat.le_refl _) _
  have hnew : (w.drew.alloc (.cells cs u)).heap[w.heap.size]? = some (.cells cs u (0, 0)) := heap_alloc_new w.drew _
  have hcap2 := grownCap_ge w c2.len 0 u
  have hcsz : cs.size = grownCap w c2.len 0 u := by
    simp only [cs, Array.size_append, List.size_toArray, size_zeroCells, cells_one hz1, hl]
    simp; omega
  obtain ⟨hc, hk⟩ := HC_new (i := d) (b := w.heap.size) (B := .sl u c2) h2 hbel (Nat.le_refl _) fun hk => by
    refine ⟨hc2, .inr ⟨_, cs, by simp [updM], .inl h2.below.size, hnew, by rw [hcsz]; exact hcap2, ?_⟩⟩
    have : cs.toList.take c2.len = news := by
      simp only [cs, Array.toList_append, List.nil_append]
      rw [List.take_left' (by simp [hl])]
    rw [this]
    exact TRl.mono hk.treeF _ _ hnews
  unfold Oper.wp
  rw [hexec, Result.andThen_ok, Oper.upon_value]
  refine h4 _ _ _ hc hk ?_
  rw [VR]
  exact .inr ⟨_, _, _, _, by simp [updM], rfl, size_shape hnew, by rw [hcsz]; omega, hcap2⟩

end Go.Proofs.Ytmnpdipiffmnhaa

