/- A function in parts. No condition. -/
import Derived.Test.YtmnpdipiffmnhaaVAwB
import Derived.Test.YtmnpdipiffmnhaaVAwG
import Derived.Test.YtmnpdipiffmnhaaVAwJ
import Derived.Test.YtmnpdipiffmnhaaVT119
import Derived.Test.YtmnpdipiffmnhaaVT160
set_option linter.unusedVariables false
namespace Go.Aw
/-- what is left of a sequence behind its first n parts -/
def tlC : Nat → Code → Code
  | 0, c => c
  | n + 1, .seq _ b => tlC n b
  | _ + 1, c => c
/-- the same from a function's body -/
def tlF (f : Func) (n : Nat) : Code := match f.body with
  | some c => tlC n c
  | none => .skip
end Go.Aw

set_option linter.unusedVariables false
set_option linter.unusedSimpArgs false
set_option maxRecDepth 20000
set_option maxHeartbeats 8000000
namespace Go.Proofs.Ytmnpdipiffmnhaa
open Go.Aw

/-! ### two parts in order become one in order -/
section
variable {P : Program} {o : Oper} {F : List Nat} {ρ : Fr} {η : Hp} {ty : Ty}
/-- an integer that is not below nought, as one without a sign -/
theorem q_i2u {s t : TypeId} {es et : TE} {x : Operand} {z : Int} (n : Nat) (hz : z = (n : Nat)) (h : n ≤ 4611686018427387904) (hT : TyOk P ty) (ho : o.op = .convert s t x) (hs : ty.get s = some es) (ht : ty.get t = some et) (hd : et.d = .i .u64)
    (hx : evA ρ x = .t (.v (.int .i64 z))) : QRun P o F [] ρ η (.t (.v (.int .u64 (n : Nat)))) (lkH []) := by
  have := q_cv_ii (F := F) (η := η) hT ho hs ht hd hx
  rwa [hz, show IntKind.wrap .u64 (n : Int) = n by simp [IntKind.wrap, IntKind.bits, IntKind.signed]; omega] at this
theorem q_u2i {s t : TypeId} {es et : TE} {x : Operand} (n : Nat) (h : n ≤ 4611686018427387904) (hT : TyOk P ty) (ho : o.op = .convert s t x) (hs : ty.get s = some es) (ht : ty.get t = some et) (hd : et.d = .i .i64)
    (hx : evA ρ x = .t (.v (.int .u64 (n : Nat)))) : QRun P o F [] ρ η (.t (.v (.int .i64 (n : Nat)))) (lkH []) := by
  have := q_cv_ii (F := F) (η := η) hT ho hs ht hd hx
  rwa [wrap_in (m := (n : Int)) ⟨by omega, by omega⟩] at this
theorem q_sh1 {t u : TypeId} {x y : Operand} {j : IntKind} {n : Nat} (ho : o.op = .binOp .shr t x y u)
    (hx : evA ρ x = .t (.v (.int .u64 (n : Nat)))) (hy : evA ρ y = .t (.v (.int j 1))) : QRun P o F [] ρ η (.t (.v (.int .u64 ((n / 2 : Nat) : Int)))) (lkH []) := by
  have := q_shr (P := P) (F := F) (η := η) ho (by decide : (0 : Int) ≤ 1) hx hy
  have e : ishr .u64 (n : Int) 1 = ((n / 2 : Nat) : Int) := by
    unfold ishr
    rw [show (2 : Int) ^ min (Int.toNat 1) (IntKind.bits .u64) = 2 by decide, Int.fdiv_eq_ediv_of_nonneg _ (by decide)]
    omega
  rwa [e] at this
end
theorem sw_app2 (U W : List Nat) (x y : Nat) : (((U ++ x :: y :: W).set (U.length + 1) x).set U.length y) = U ++ y :: x :: W := by simp [List.set_append]
theorem get_app3 (U W : List Nat) (x y : Nat) : (U ++ x :: y :: W).getD (U.length + 1) 0 = y := by simp [List.getD_eq_getElem?_getD]
/-- the number x behind the first t of B -/
def insC (P B : List Nat) (x : Nat) (S : List Nat) (t : Nat) : List Nat := P ++ B.take t ++ x :: (B.drop t ++ S)
theorem insC_len (P B : List Nat) (x : Nat) (S : List Nat) (t : Nat) : (insC P B x S t).length = P.length + B.length + 1 + S.length := by simp [insC]; omega
theorem insC_up {P B : List Nat} {x : Nat} {S : List Nat} {t k : Nat} (ht : t < B.length) (hk : k = P.length + t) : ((insC P B x S t).set k ((insC P B x S t).getD (k + 1) 0)).set (k + 1) ((insC P B x S t).getD k 0) = insC P B x S (t + 1) := by
  obtain ⟨y, hd, hy⟩ := cut_at ht
  have e : insC P B x S t = (P ++ B.take t) ++ x :: ([] ++ y :: (B.drop (t + 1) ++ S)) := by unfold insC; rw [hd]; simp only [List.append_assoc, List.cons_append, List.nil_append]
  have e2 : insC P B x S (t + 1) = (P ++ B.take t) ++ y :: ([] ++ x :: (B.drop (t + 1) ++ S)) := by unfold insC; rw [hy]; simp only [List.append_assoc, List.cons_append, List.nil_append]
  have ek : k = (P ++ B.take t).length := by simp; omega
  have ek1 : k + 1 = (P ++ B.take t).length + 1 + ([] : List Nat).length := by rw [ek]; rfl
  rw [e, e2, ek1, ek, get_app1, get_app2, sw_app]
theorem insC_dn {P B : List Nat} {x : Nat} {S : List Nat} {t k : Nat} (ht : t < B.length) (hk : k = P.length + t) : ((insC P B x S (t + 1)).set (k + 1) ((insC P B x S (t + 1)).getD k 0)).set k ((insC P B x S (t + 1)).getD (k + 1) 0) = insC P B x S t := by
  obtain ⟨y, hd, hy⟩ := cut_at ht
  have e : insC P B x S t = (P ++ B.take t) ++ x :: y :: (B.drop (t + 1) ++ S) := by unfold insC; rw [hd]; simp only [List.append_assoc, List.cons_append, List.nil_append]
  have e2 : insC P B x S (t + 1) = (P ++ B.take t) ++ y :: x :: (B.drop (t + 1) ++ S) := by unfold insC; rw [hy]; simp only [List.append_assoc, List.cons_append, List.nil_append]
  have ek : k = (P ++ B.take t).length := by simp; omega
  rw [e, e2, ek, get_app1, get_app3, sw_app2]
theorem ins_srt2 {A1 A2 : List Nat} {x : Nat} (h : Srt (A1 ++ A2)) (h1 : ∀ y ∈ A1, kk y ≤ kk x) (h2 : ∀ y ∈ A2, kk x ≤ kk y) : Srt (A1 ++ x :: A2) := by
  have hp := List.pairwise_append.1 h
  refine List.pairwise_append.2 ⟨hp.1, List.pairwise_cons.2 ⟨fun y hy => h2 y hy, hp.2.1⟩, fun a ha b hb => ?_⟩
  rcases List.mem_cons.1 hb with rfl | hb
  · exact h1 a ha
  · exact hp.2.2 a ha b hb
theorem srt_at {L : List Nat} (h : Srt L) {i j : Nat} (hij : i ≤ j) (hj : j < L.length) : kk (L.getD i 0) ≤ kk (L.getD j 0) := by
  rcases Nat.lt_or_eq_of_le hij with h1 | h1
  · have := List.pairwise_iff_getElem.1 h i j (by omega) hj h1
    rw [List.getD_eq_getElem?_getD, List.getD_eq_getElem?_getD, List.getElem?_eq_getElem (by omega : i < L.length), List.getElem?_eq_getElem hj]
    exact this
  · subst h1; exact Rat.le_refl
theorem mem_take_at {L : List Nat} {n y : Nat} (h : y ∈ L.take n) : ∃ t, t < n ∧ t < L.length ∧ L.getD t 0 = y := by
  obtain ⟨t, ht, rfl⟩ := List.getElem_of_mem h
  simp only [List.length_take] at ht
  exact ⟨t, by omega, by omega, by rw [List.getD_eq_getElem?_getD, List.getElem?_eq_getElem (by omega : t < L.length)]; simp⟩
theorem mem_drop_at {L : List Nat} {n y : Nat} (h : y ∈ L.drop n) : ∃ t, n ≤ t ∧ t < L.length ∧ L.getD t 0 = y := by
  obtain ⟨t, ht, rfl⟩ := List.getElem_of_mem h
  simp only [List.length_drop] at ht
  exact ⟨n + t, by omega, by omega, by rw [List.getD_eq_getElem?_getD, List.getElem?_eq_getElem (by omega : n + t < L.length)]; simp⟩
theorem app_at (P A R : List Nat) {i t : Nat} (h : i = P.length + t) (ht : t < A.length) : (P ++ A ++ R).getD i 0 = A.getD t 0 := by
  subst h
  rw [List.getD_eq_getElem?_getD, List.getD_eq_getElem?_getD, List.getElem?_append_left (by simp; omega), List.getElem?_append_right (by omega)]
  simp
theorem mem_at {L : List Nat} {t : Nat} (h : t < L.length) : L.getD t 0 ∈ L := by
  rw [List.getD_eq_getElem?_getD, List.getElem?_eq_getElem h]; exact List.getElem_mem h
/-- what a number comes to that is put into numbers in order: from the left .. -/
theorem sortF_left {x : Nat} {B : List Nat} {p : Nat} (hf : ∀ y ∈ [x] ++ B, Fnt .f32 y) (hB : Srt B) (h1 : ∀ t, t < p → t < B.length → kk (B.getD t 0) < kk x) (h2 : ∀ t, p ≤ t → t < B.length → kk x ≤ kk (B.getD t 0)) : sortF ([x] ++ B) = B.take p ++ x :: B.drop p := by
  refine (sortF_of hf (ins_srt2 (by rw [List.take_append_drop]; exact hB) (fun y hy => ?_) (fun y hy => ?_)) ?_).symm
  · obtain ⟨t, a, b, rfl⟩ := mem_take_at hy; exact Rat.le_of_lt (h1 t a b)
  · obtain ⟨t, a, b, rfl⟩ := mem_drop_at hy; exact h2 t a b
  · have e : [x] ++ B = [x] ++ B.take p ++ B.drop p := by rw [List.append_assoc, List.take_append_drop]
    have e2 : B.take p ++ x :: B.drop p = B.take p ++ [x] ++ B.drop p := by simp
    rw [e, e2]
    exact (SS.swap fun a ha b hb => by
      simp only [List.mem_singleton] at ha; subst ha
      obtain ⟨t, q1, q2, rfl⟩ := mem_take_at hb; exact h1 t q1 q2).app (SS.refl _)
/-- .. and from the right -/
theorem sortF_right {x : Nat} {A : List Nat} {p : Nat} (hf : ∀ y ∈ A ++ [x], Fnt .f32 y) (hA : Srt A) (h1 : ∀ t, t < p → t < A.length → kk (A.getD t 0) ≤ kk x) (h2 : ∀ t, p ≤ t → t < A.length → kk x < kk (A.getD t 0)) : sortF (A ++ [x]) = A.take p ++ x :: A.drop p := by
  refine (sortF_of hf (ins_srt2 (by rw [List.take_append_drop]; exact hA) (fun y hy => ?_) (fun y hy => ?_)) ?_).symm
  · obtain ⟨t, a, b, rfl⟩ := mem_take_at hy; exact h1 t a b
  · obtain ⟨t, a, b, rfl⟩ := mem_drop_at hy; exact Rat.le_of_lt (h2 t a b)
  · have := ins_ss (A1 := A.take p) (A2 := A.drop p) (x := x) fun y hy => by
      obtain ⟨t, a, b, rfl⟩ := mem_drop_at hy; exact h2 t a b
    rwa [List.take_append_drop] at this
/-- where two parts in order meet, mirrored -/
theorem meet_ok {A B : List Nat} {M s s0 r0 : Nat} (hf : ∀ x ∈ A ++ B, Fnt .f32 x) (hA : Srt A) (hB : Srt B) (hM : M = (A.length + B.length) / 2) (h0 : (M < A.length ∧ s0 = M - B.length ∧ r0 = M) ∨ (A.length ≤ M ∧ s0 = 0 ∧ r0 = A.length)) (hs : s0 ≤ s ∧ s ≤ r0)
    (h1 : ∀ t, s0 ≤ t → t < s → kk (A.getD t 0) ≤ kk (B.getD (M - 1 - t) 0)) (h2 : ∀ t, s ≤ t → t < r0 → kk (B.getD (M - 1 - t) 0) < kk (A.getD t 0)) :
    sortF (A.take s ++ B.take (M - s)) ++ sortF (A.drop s ++ B.drop (M - s)) = sortF (A ++ B) := by
  have e := merge_ok (A1 := A.take s) (A2 := A.drop s) (B1 := B.take (M - s)) (B2 := B.drop (M - s)) (by rw [List.take_append_drop, List.take_append_drop]; exact hf) (by rw [List.take_append_drop]; exact hA) (by rw [List.take_append_drop]; exact hB)
    (fun x hx y hy => ?_) (fun x hx y hy => ?_)
  · rwa [List.take_append_drop, List.take_append_drop] at e
  · obtain ⟨t, a, b, rfl⟩ := mem_drop_at hx
    obtain ⟨u, c, d, rfl⟩ := mem_take_at hy
    have hsr : s < r0 := by omega
    have k1 := h2 s (Nat.le_refl s) hsr
    have k2 := srt_at hA a b
    have k3 := srt_at hB (show u ≤ M - 1 - s by omega) (by omega)
    grind
  · obtain ⟨t, a, b, rfl⟩ := mem_take_at hx
    obtain ⟨u, c, d, rfl⟩ := mem_drop_at hy
    have hss : s0 < s := by omega
    have k1 := h1 (s - 1) (by omega) (by omega)
    have k2 := srt_at hA (show t ≤ s - 1 by omega) (by omega)
    have k3 := srt_at hB (show M - 1 - (s - 1) ≤ u by omega) d
    grind
end Go.Proofs.Ytmnpdipiffmnhaa

set_option linter.unusedVariables false
set_option linter.unusedSimpArgs false
set_option maxRecDepth 20000
set_option maxHeartbeats 8000000
namespace Go.Proofs.Ytmnpdipiffmnhaa
open Go.Aw
attribute [local irreducible] QRun LexD AWp TCall TMut fop fint fcmp fconv swC insC sortF Fnt

/-! ### two parts in order become one in order: the walk -/
abbrev smA (N : Nat) (a m b : Int) : List AV := [.argo 0 900 0 N, .t (.v (.int .i64 a)), .t (.v (.int .i64 m)), .t (.v (.int .i64 b)), .arg 4 (.fn 214 [])]
abbrev smR (N : Nat) (a m b : Int) (L' : List Nat) := RetM Try.prog Try.f228 (smA N a m b) (.tup []) [(900, .sl 30 (.fl L'))] []
def MergeC (d : Nat) : Prop := ∀ (N : Nat) (P A B S L L' : List Nat) (a m b : Int), A.length + B.length ≤ d → L.length = N → N ≤ 1048576 → 1 ≤ A.length → 1 ≤ B.length → Srt A → Srt B → (∀ x ∈ A ++ B, Fnt .f32 x) → L = P ++ A ++ B ++ S → L' = P ++ sortF (A ++ B) ++ S →
    a = (P.length : Nat) → m = ((P.length + A.length : Nat) : Int) → b = ((P.length + A.length + B.length : Nat) : Int) →
    TMut Try.prog 228 (smA N a m b) [(900, .sl 30 (.fl L))] (.tup []) [(900, .sl 30 (.fl L'))] []
theorem sm_11 {d : Nat} (hIH : MergeC d) (N : Nat) (a0 m0 : Int) (P A B S L L' : List Nat) (mid en b : Nat) (hd : A.length + B.length ≤ d) (hN : L.length = N) (hN2 : N ≤ 1048576) (hA : Srt A) (hB : Srt B) (hf : ∀ x ∈ A ++ B, Fnt .f32 x) (hL : L = P ++ A ++ B ++ S) (hL' : L' = P ++ sortF (A ++ B) ++ S)
    (hm : mid = P.length) (he : en = P.length + A.length) (hb : b = P.length + A.length + B.length) :
    AWp Try.prog Try.f228.ntmps (tlF Try.f228 11) (smR N a0 m0 (b : Nat) L')
      (lkF [(0, .argo 0 900 0 N), (3, .t (.v (.int .i64 (b : Nat)))), (4, .arg 4 (.fn 214 [])), (18, .t (.v (.int .i64 (mid : Nat)))), (24, .t (.v (.int .i64 (en : Nat))))]) (lkH [(900, .sl 30 (.fl L))]) := by
  have hsum : b ≤ N := by rw [← hN, hL]; simp; omega
  repeat (first | (refine w_q (h := ?_)) | (refine w_s (h := ?_)) | (refine w_t (h := ?_)) | (refine w_k (h := ?_)) | (refine y_q (h := ?_)) | (refine y_s (h := ?_)) | (refine y_t (h := ?_)) | (refine y_k (h := ?_)) | (refine lex_nil (by kernel_rfl) ?_) | (refine awp_sq ?_) | (refine awp_rg ?_) | (refine awp_rd (by kernel_rfl) (by kernel_rfl) ?_) | (refine awp_block ?_) | (refine awp_exit ?_) | (refine awp_ret ?_) | (refine awp_skip ?_))
  refine lex_if rfl rfl rfl (fun h1 => ?_) (fun h1 => ?_)
  · simp only [icmp, decide_eq_true_eq] at h1
    repeat (first | (refine w_q (h := ?_)) | (refine w_s (h := ?_)) | (refine w_t (h := ?_)) | (refine w_k (h := ?_)) | (refine y_q (h := ?_)) | (refine y_s (h := ?_)) | (refine y_t (h := ?_)) | (refine y_k (h := ?_)) | (refine lex_nil (by kernel_rfl) ?_) | (refine awp_sq ?_) | (refine awp_rg ?_) | (refine awp_rd (by kernel_rfl) (by kernel_rfl) ?_) | (refine awp_block ?_) | (refine awp_exit ?_) | (refine awp_ret ?_) | (refine awp_skip ?_))
    refine awp_if rfl (fun h2 => ?_) (fun h2 => ?_)
    · simp only [icmp, decide_eq_true_eq] at h2
      repeat (first | (refine w_q (h := ?_)) | (refine w_s (h := ?_)) | (refine w_t (h := ?_)) | (refine w_k (h := ?_)) | (refine y_q (h := ?_)) | (refine y_s (h := ?_)) | (refine y_t (h := ?_)) | (refine y_k (h := ?_)) | (refine lex_nil (by kernel_rfl) ?_) | (refine awp_sq ?_) | (refine awp_rg ?_) | (refine awp_rd (by kernel_rfl) (by kernel_rfl) ?_) | (refine awp_block ?_) | (refine awp_exit ?_) | (refine awp_ret ?_) | (refine awp_skip ?_))
      (refine m_s [(900, _)] (hIH N P A B S L L' (mid : Nat) (en : Nat) (b : Nat) hd hN hN2 (by omega) (by omega) hA hB hf hL hL' (by omega) (by omega) (by omega)) (h := ?_))
      repeat (first | (refine w_q (h := ?_)) | (refine w_s (h := ?_)) | (refine w_t (h := ?_)) | (refine w_k (h := ?_)) | (refine y_q (h := ?_)) | (refine y_s (h := ?_)) | (refine y_t (h := ?_)) | (refine y_k (h := ?_)) | (refine lex_nil (by kernel_rfl) ?_) | (refine awp_sq ?_) | (refine awp_rg ?_) | (refine awp_rd (by kernel_rfl) (by kernel_rfl) ?_) | (refine awp_block ?_) | (refine awp_exit ?_) | (refine awp_ret ?_) | (refine awp_skip ?_))
      refine mret_ok tyOk (by first | exact .inr rfl | exact .inl rfl) (piA 900 900) rfl .nil ?_ ⟨rfl, trivial⟩ (injO_1 _ _ _) (held1 0 0 900 0 _ 0 _ rfl rfl rfl)
      exact rr_tup .nil
    · simp only [icmp, decide_eq_false_iff_not] at h2
      obtain rfl : B = [] := List.length_eq_zero_iff.1 (by omega)
      rw [List.append_nil] at hf hL'
      rw [sortF_id hf hA] at hL'
      obtain rfl : L = L' := by rw [hL, hL']; simp
      repeat (first | (refine w_q (h := ?_)) | (refine w_s (h := ?_)) | (refine w_t (h := ?_)) | (refine w_k (h := ?_)) | (refine y_q (h := ?_)) | (refine y_s (h := ?_)) | (refine y_t (h := ?_)) | (refine y_k (h := ?_)) | (refine lex_nil (by kernel_rfl) ?_) | (refine awp_sq ?_) | (refine awp_rg ?_) | (refine awp_rd (by kernel_rfl) (by kernel_rfl) ?_) | (refine awp_block ?_) | (refine awp_exit ?_) | (refine awp_ret ?_) | (refine awp_skip ?_))
      refine mret_ok tyOk (by first | exact .inr rfl | exact .inl rfl) (piA 900 900) rfl .nil ?_ ⟨rfl, trivial⟩ (injO_1 _ _ _) (held1 0 0 900 0 _ 0 _ rfl rfl rfl)
      exact rr_tup .nil
  · simp only [icmp, decide_eq_false_iff_not] at h1
    obtain rfl : A = [] := List.length_eq_zero_iff.1 (by omega)
    rw [List.nil_append] at hf hL'
    rw [sortF_id hf hB] at hL'
    obtain rfl : L = L' := by rw [hL, hL']; simp
    repeat (first | (refine w_q (h := ?_)) | (refine w_s (h := ?_)) | (refine w_t (h := ?_)) | (refine w_k (h := ?_)) | (refine y_q (h := ?_)) | (refine y_s (h := ?_)) | (refine y_t (h := ?_)) | (refine y_k (h := ?_)) | (refine lex_nil (by kernel_rfl) ?_) | (refine awp_sq ?_) | (refine awp_rg ?_) | (refine awp_rd (by kernel_rfl) (by kernel_rfl) ?_) | (refine awp_block ?_) | (refine awp_exit ?_) | (refine awp_ret ?_) | (refine awp_skip ?_))
    refine awp_ifF rfl rfl ?_
    repeat (first | (refine w_q (h := ?_)) | (refine w_s (h := ?_)) | (refine w_t (h := ?_)) | (refine w_k (h := ?_)) | (refine y_q (h := ?_)) | (refine y_s (h := ?_)) | (refine y_t (h := ?_)) | (refine y_k (h := ?_)) | (refine lex_nil (by kernel_rfl) ?_) | (refine awp_sq ?_) | (refine awp_rg ?_) | (refine awp_rd (by kernel_rfl) (by kernel_rfl) ?_) | (refine awp_block ?_) | (refine awp_exit ?_) | (refine awp_ret ?_) | (refine awp_skip ?_))
    refine mret_ok tyOk (by first | exact .inr rfl | exact .inl rfl) (piA 900 900) rfl .nil ?_ ⟨rfl, trivial⟩ (injO_1 _ _ _) (held1 0 0 900 0 _ 0 _ rfl rfl rfl)
    exact rr_tup .nil
theorem sm_10 {d : Nat} (hIH : MergeC d) (N : Nat) (m0 : Int) (P A1 B1 A2 B2 S L L' : List Nat) (a st mid en b : Nat) (hd1 : A1.length + B1.length ≤ d) (hd : A2.length + B2.length ≤ d) (hN : L.length = N) (hN2 : N ≤ 1048576) (hA1 : Srt A1) (hB1 : Srt B1) (hA : Srt A2) (hB : Srt B2) (hf1 : ∀ x ∈ A1 ++ B1, Fnt .f32 x) (hf : ∀ x ∈ A2 ++ B2, Fnt .f32 x)
    (hL : L = P ++ A1 ++ B1 ++ A2 ++ B2 ++ S) (hL' : L' = P ++ (sortF (A1 ++ B1) ++ sortF (A2 ++ B2)) ++ S)
    (ha : a = P.length) (hs : st = P.length + A1.length) (hm : mid = st + B1.length) (he : en = mid + A2.length) (hb : b = en + B2.length) :
    AWp Try.prog Try.f228.ntmps (tlF Try.f228 10) (smR N (a : Nat) m0 (b : Nat) L')
      (lkF [(0, .argo 0 900 0 N), (1, .t (.v (.int .i64 (a : Nat)))), (3, .t (.v (.int .i64 (b : Nat)))), (4, .arg 4 (.fn 214 [])), (18, .t (.v (.int .i64 (mid : Nat)))), (20, .t (.v (.int .i64 (st : Nat)))), (24, .t (.v (.int .i64 (en : Nat))))]) (lkH [(900, .sl 30 (.fl L))]) := by
  have hsum : b ≤ N := by rw [← hN, hL]; simp; omega
  have hl1 : (sortF (A1 ++ B1)).length = A1.length + B1.length := by rw [sortF_len, List.length_append]
  have hgo : ∀ L1, L1 = P ++ sortF (A1 ++ B1) ++ A2 ++ B2 ++ S → AWp Try.prog Try.f228.ntmps (tlF Try.f228 11) (smR N (a : Nat) m0 (b : Nat) L')
      (lkF [(0, .argo 0 900 0 N), (3, .t (.v (.int .i64 (b : Nat)))), (4, .arg 4 (.fn 214 [])), (18, .t (.v (.int .i64 (mid : Nat)))), (24, .t (.v (.int .i64 (en : Nat))))]) (lkH [(900, .sl 30 (.fl L1))]) := fun L1 hL1 =>
    sm_11 hIH N _ _ (P ++ sortF (A1 ++ B1)) A2 B2 S L1 L' mid en b hd (by rw [hL1, ← hN, hL]; simp [hl1]; omega) hN2 hA hB hf hL1 (by rw [hL']; simp) (by simp [hl1]; omega) (by simp [hl1]; omega) (by simp [hl1]; omega)
  repeat (first | (refine w_q (h := ?_)) | (refine w_s (h := ?_)) | (refine w_t (h := ?_)) | (refine w_k (h := ?_)) | (refine y_q (h := ?_)) | (refine y_s (h := ?_)) | (refine y_t (h := ?_)) | (refine y_k (h := ?_)) | (refine lex_nil (by kernel_rfl) ?_) | (refine awp_sq ?_) | (refine awp_rg ?_) | (refine awp_rd (by kernel_rfl) (by kernel_rfl) ?_) | (refine awp_block ?_) | (refine awp_exit ?_) | (refine awp_ret ?_) | (refine awp_skip ?_))
  refine lex_if rfl rfl rfl (fun h1 => ?_) (fun h1 => ?_)
  · simp only [icmp, decide_eq_true_eq] at h1
    repeat (first | (refine w_q (h := ?_)) | (refine w_s (h := ?_)) | (refine w_t (h := ?_)) | (refine w_k (h := ?_)) | (refine y_q (h := ?_)) | (refine y_s (h := ?_)) | (refine y_t (h := ?_)) | (refine y_k (h := ?_)) | (refine lex_nil (by kernel_rfl) ?_) | (refine awp_sq ?_) | (refine awp_rg ?_) | (refine awp_rd (by kernel_rfl) (by kernel_rfl) ?_) | (refine awp_block ?_) | (refine awp_exit ?_) | (refine awp_ret ?_) | (refine awp_skip ?_))
    refine awp_if rfl (fun h2 => ?_) (fun h2 => ?_)
    · simp only [icmp, decide_eq_true_eq] at h2
      repeat (first | (refine w_q (h := ?_)) | (refine w_s (h := ?_)) | (refine w_t (h := ?_)) | (refine w_k (h := ?_)) | (refine y_q (h := ?_)) | (refine y_s (h := ?_)) | (refine y_t (h := ?_)) | (refine y_k (h := ?_)) | (refine lex_nil (by kernel_rfl) ?_) | (refine awp_sq ?_) | (refine awp_rg ?_) | (refine awp_rd (by kernel_rfl) (by kernel_rfl) ?_) | (refine awp_block ?_) | (refine awp_exit ?_) | (refine awp_ret ?_) | (refine awp_skip ?_))
      (refine m_s [(900, _)] (hIH N P A1 B1 (A2 ++ B2 ++ S) L (P ++ sortF (A1 ++ B1) ++ A2 ++ B2 ++ S) (a : Nat) (st : Nat) (mid : Nat) hd1 hN hN2 (by omega) (by omega) hA1 hB1 hf1 (by rw [hL]; simp) (by simp) (by omega) (by omega) (by omega)) (h := ?_))
      repeat (first | (refine w_q (h := ?_)) | (refine w_s (h := ?_)) | (refine w_t (h := ?_)) | (refine w_k (h := ?_)))
      refine lex_nil (by kernel_rfl) ?_
      refine awp_weak (fun i => i) _ _ (by exact ⟨rfl, rfl, rfl, rfl, rfl, trivial⟩) (by exact ⟨rfl, trivial⟩) (injOn_id _) (hgo _ rfl)
    · simp only [icmp, decide_eq_false_iff_not] at h2
      obtain rfl : B1 = [] := List.length_eq_zero_iff.1 (by omega)
      refine awp_skip ?_
      refine awp_weak (fun i => i) _ _ (by exact ⟨rfl, rfl, rfl, rfl, rfl, trivial⟩) (by exact ⟨rfl, trivial⟩) (injOn_id _) (hgo L (by rw [List.append_nil] at hf1 ⊢; rw [sortF_id hf1 hA1, hL]; simp))
  · simp only [icmp, decide_eq_false_iff_not] at h1
    obtain rfl : A1 = [] := List.length_eq_zero_iff.1 (by omega)
    repeat (first | (refine w_q (h := ?_)) | (refine w_s (h := ?_)) | (refine w_t (h := ?_)) | (refine w_k (h := ?_)))
    refine lex_nil (by kernel_rfl) ?_
    refine awp_ifF rfl rfl ?_
    refine awp_skip ?_
    refine awp_weak (fun i => i) _ _ (by exact ⟨rfl, rfl, rfl, rfl, rfl, trivial⟩) (by exact ⟨rfl, trivial⟩) (injOn_id _) (hgo L (by rw [List.nil_append] at hf1 ⊢; rw [sortF_id hf1 hB1, hL]; simp))
end Go.Proofs.Ytmnpdipiffmnhaa

