import Derived.Test.YtmnpdipiffmnhaaVT164
set_option linter.unusedVariables false
set_option linter.unusedSimpArgs false
set_option maxRecDepth 20000
set_option maxHeartbeats 8000000
namespace Go.Proofs.Ytmnpdipiffmnhaa
open Go.Aw
attribute [local irreducible] QRun LexD AWp TCall TMut fop fint fcmp fconv swC insC Fnt rv

/-! ### the stable sort -/
/-- the numbers from a up to b put in order -/
def msort (M : List Nat) (a b : Nat) : List Nat := M.take a ++ sortF ((M.take b).drop a) ++ M.drop b
def SR (M : List Nat) (a b : Nat) : Prop := ∀ x y, a ≤ x → x ≤ y → y < b → kk (M.getD x 0) ≤ kk (M.getD y 0)
theorem cut3 {M : List Nat} {a b : Nat} (h : a ≤ b) : M = M.take a ++ (M.take b).drop a ++ M.drop b := by
  conv => lhs; rw [← List.take_append_drop b M, ← List.take_append_drop a (M.take b), List.take_take, Nat.min_eq_left h]
theorem cut4 {M : List Nat} {a m b : Nat} (h : a ≤ m) (h2 : m ≤ b) : (M.take b).drop a = (M.take m).drop a ++ (M.take b).drop m := by
  conv => lhs; rw [← List.take_append_drop m (M.take b), List.take_take, Nat.min_eq_left h2, List.drop_append]
  by_cases hl : m ≤ M.length
  · rw [List.length_take, Nat.min_eq_left hl, Nat.sub_eq_zero_of_le h, List.drop_zero]
  · have e : (M.take b).drop m = [] := List.drop_eq_nil_of_le (by simp; omega)
    rw [e]; simp
theorem msort_len {M : List Nat} {a b : Nat} (h : a ≤ b) : (msort M a b).length = M.length := by
  conv => rhs; rw [cut3 (M := M) h]
  unfold msort; simp [sortF_len]
theorem mid_len {M : List Nat} {a b : Nat} (h2 : b ≤ M.length) : ((M.take b).drop a).length = b - a := by simp; omega
theorem msort_out {M : List Nat} {a b x : Nat} (h : a ≤ b) (h2 : b ≤ M.length) (hx : x < a ∨ b ≤ x) : (msort M a b).getD x 0 = M.getD x 0 := by
  have hl : (sortF ((M.take b).drop a)).length = b - a := by rw [sortF_len, mid_len h2]
  have ha : (M.take a).length = a := by rw [List.length_take]; omega
  unfold msort
  rw [List.getD_eq_getElem?_getD, List.getD_eq_getElem?_getD]
  rcases hx with hx | hx
  · rw [List.append_assoc, List.getElem?_append_left (by omega), List.getElem?_take, if_pos hx]
  · rw [List.getElem?_append_right (by rw [List.length_append]; omega), List.getElem?_drop, List.length_append, ha, hl, show b + (x - (a + (b - a))) = x by omega]
theorem msort_in {M : List Nat} {a b t : Nat} (h : a ≤ b) (h2 : b ≤ M.length) (ht : t < b - a) : (msort M a b).getD (a + t) 0 = (sortF ((M.take b).drop a)).getD t 0 := by
  have hl : (sortF ((M.take b).drop a)).length = b - a := by rw [sortF_len, mid_len h2]
  have ha : (M.take a).length = a := by rw [List.length_take]; omega
  exact app_at (M.take a) _ _ (by rw [ha]) (by omega)
theorem mid_fin {M : List Nat} {a b : Nat} (hf : ∀ x ∈ M, Fnt .f32 x) : ∀ x ∈ (M.take b).drop a, Fnt .f32 x := fun x hx => hf x (List.mem_of_mem_take (List.mem_of_mem_drop hx))
theorem msort_srt {M : List Nat} {a b : Nat} (h : a ≤ b) (h2 : b ≤ M.length) (hf : ∀ x ∈ M, Fnt .f32 x) : SR (msort M a b) a b := fun x y g1 g2 g3 => by
  have hl : (sortF ((M.take b).drop a)).length = b - a := by rw [sortF_len, mid_len h2]
  have := srt_at (sortF_ok _ (mid_fin (a := a) (b := b) hf)).1 (show x - a ≤ y - a by omega) (by omega)
  rw [← msort_in h h2 (by omega), ← msort_in h h2 (by omega), show a + (x - a) = x by omega, show a + (y - a) = y by omega] at this
  exact this
theorem msort_ss {M : List Nat} {a b : Nat} (h : a ≤ b) (hf : ∀ x ∈ M, Fnt .f32 x) : SS M (msort M a b) := by
  have := ((SS.refl (M.take a)).app (sortF_ok _ (mid_fin (a := a) (b := b) hf)).2).app (SS.refl (M.drop b))
  rwa [← cut3 h] at this
theorem sr_srt {M : List Nat} {a b : Nat} (h : SR M a b) : Srt ((M.take b).drop a) := List.pairwise_iff_getElem.2 fun i j hi hj hij => by
  simp only [List.length_drop, List.length_take] at hi hj
  have := h (a + i) (a + j) (by omega) (by omega) (by omega)
  rw [List.getD_eq_getElem?_getD, List.getD_eq_getElem?_getD, List.getElem?_eq_getElem (by omega : a + i < M.length), List.getElem?_eq_getElem (by omega : a + j < M.length)] at this
  simpa using this
theorem srt_all {M : List Nat} (h : SR M 0 M.length) : Srt M := by
  have := sr_srt h
  rwa [List.take_length, List.drop_zero] at this
/-- what is in order once blocks of 20 up to a are .. -/
def KI (l : List Nat) (N : Nat) (x : Nat × List Nat) : Prop := x.1 % 20 = 0 ∧ x.1 ≤ N ∧ x.2.length = N ∧ SS l x.2 ∧ ∀ i j, i ≤ j → j < x.1 → i / 20 = j / 20 → kk (x.2.getD i 0) ≤ kk (x.2.getD j 0)
def SB (N s : Nat) (M : List Nat) : Prop := ∀ i j, i ≤ j → j < N → i / s = j / s → kk (M.getD i 0) ≤ kk (M.getD j 0)
theorem KI_S {l : List Nat} {N a b : Nat} {M : List Nat} (hf : ∀ x ∈ l, Fnt .f32 x) (h : KI l N (a, M)) (hb : b = a + 20) (hN : b ≤ N) : KI l N (b, msort M a b) := by
  obtain ⟨h1, h2, h3, h4, h5⟩ := h
  simp only [] at h1 h2 h3 h4 h5
  have hfM : ∀ x ∈ M, Fnt .f32 x := fun x hx => hf x (h4.mem hx)
  have hs := msort_srt (M := M) (a := a) (b := b) (by omega) (by omega) hfM
  refine ⟨by simp only []; omega, hN, by rw [msort_len (by omega)]; exact h3, h4.trans (msort_ss (by omega) hfM), fun i j g1 g2 g3 => ?_⟩
  simp only [] at g2 ⊢
  by_cases hi : a ≤ i
  · exact hs i j hi g1 g2
  · rw [msort_out (by omega) (by omega) (.inl (by omega)), msort_out (by omega) (by omega) (.inl (by omega))]
    exact h5 i j g1 (by omega) g3
theorem KI_end {l : List Nat} {N a : Nat} {M : List Nat} (hf : ∀ x ∈ l, Fnt .f32 x) (h : KI l N (a, M)) (hN : N < a + 20) : SB N 20 (msort M a N) ∧ SS l (msort M a N) ∧ (msort M a N).length = N := by
  obtain ⟨h1, h2, h3, h4, h5⟩ := h
  simp only [] at h1 h2 h3 h4 h5
  have hfM : ∀ x ∈ M, Fnt .f32 x := fun x hx => hf x (h4.mem hx)
  have hs := msort_srt (M := M) (a := a) (b := N) h2 (by omega) hfM
  refine ⟨fun i j g1 g2 g3 => ?_, h4.trans (msort_ss (by omega) hfM), by rw [msort_len (by omega)]; exact h3⟩
  by_cases hi : a ≤ i
  · exact hs i j hi g1 g2
  · rw [msort_out (by omega) (by omega) (.inl (by omega)), msort_out (by omega) (by omega) (.inl (by omega))]
    exact h5 i j g1 (by omega) g3
/-- .. and once those of s are, two and two up to a -/
def JI (l : List Nat) (N s : Nat) (x : Nat × List Nat) : Prop := (s = 20 ∨ s = 40) ∧ x.1 % (2 * s) = 0 ∧ x.1 ≤ N ∧ x.2.length = N ∧ SS l x.2 ∧ (∀ i j, i ≤ j → j < x.1 → i / (2 * s) = j / (2 * s) → kk (x.2.getD i 0) ≤ kk (x.2.getD j 0)) ∧ ∀ i j, x.1 ≤ i → i ≤ j → j < N → i / s = j / s → kk (x.2.getD i 0) ≤ kk (x.2.getD j 0)
theorem JI_0 {l : List Nat} {N s : Nat} {M : List Nat} (hs : s = 20 ∨ s = 40) (h1 : SB N s M) (h2 : SS l M) (h3 : M.length = N) : JI l N s (0, M) :=
  ⟨hs, Nat.zero_mod _, Nat.zero_le _, h3, h2, fun i j _ g => absurd g (Nat.not_lt_zero j), fun i j _ g1 g2 g3 => h1 i j g1 g2 g3⟩
theorem JI_sr {l : List Nat} {N s a : Nat} {M : List Nat} (h : JI l N s (a, M)) : (a + s ≤ N → SR M a (a + s)) ∧ (∀ b, a + s ≤ b → b ≤ N → b ≤ a + 2 * s → SR M (a + s) b) := by
  obtain ⟨h0, h1, h2, h3, h4, h5, h6⟩ := h
  simp only [] at h1 h2 h3 h4 h5 h6
  refine ⟨fun hN i j g1 g2 g3 => h6 i j g1 g2 (by omega) ?_, fun b k1 k2 k3 i j g1 g2 g3 => h6 i j (by omega) g2 (by omega) ?_⟩
  · rcases h0 with rfl | rfl <;> omega
  · rcases h0 with rfl | rfl <;> omega
theorem JI_S {l : List Nat} {N s a b : Nat} {M : List Nat} (hf : ∀ x ∈ l, Fnt .f32 x) (h : JI l N s (a, M)) (hb : b = a + 2 * s) (hN : b ≤ N) : JI l N s (b, msort M a b) := by
  obtain ⟨h0, h1, h2, h3, h4, h5, h6⟩ := h
  simp only [] at h1 h2 h3 h4 h5 h6
  have hfM : ∀ x ∈ M, Fnt .f32 x := fun x hx => hf x (h4.mem hx)
  have hs := msort_srt (M := M) (a := a) (b := b) (by omega) (by omega) hfM
  refine ⟨h0, by simp only []; rcases h0 with rfl | rfl <;> omega, hN, by rw [msort_len (by omega)]; exact h3, h4.trans (msort_ss (by omega) hfM), fun i j g1 g2 g3 => ?_, fun i j g0 g1 g2 g3 => ?_⟩
  · simp only [] at g2 ⊢
    by_cases hi : a ≤ i
    · exact hs i j hi g1 g2
    · have hj : j < a := by rcases h0 with rfl | rfl <;> omega
      rw [msort_out (by omega) (by omega) (.inl (by omega)), msort_out (by omega) (by omega) (.inl hj)]
      exact h5 i j g1 hj g3
  · simp only [] at g0 ⊢
    rw [msort_out (by omega) (by omega) (.inr (by omega)), msort_out (by omega) (by omega) (.inr (by omega))]
    exact h6 i j (by omega) g1 g2 g3
theorem JI_end1 {l : List Nat} {N s a : Nat} {M : List Nat} (hf : ∀ x ∈ l, Fnt .f32 x) (h : JI l N s (a, M)) (hN : N < a + 2 * s) : SB N (2 * s) (msort M a N) ∧ SS l (msort M a N) ∧ (msort M a N).length = N := by
  obtain ⟨h0, h1, h2, h3, h4, h5, h6⟩ := h
  simp only [] at h1 h2 h3 h4 h5 h6
  have hfM : ∀ x ∈ M, Fnt .f32 x := fun x hx => hf x (h4.mem hx)
  have hs := msort_srt (M := M) (a := a) (b := N) (by omega) (by omega) hfM
  refine ⟨fun i j g1 g2 g3 => ?_, h4.trans (msort_ss (by omega) hfM), by rw [msort_len (by omega)]; exact h3⟩
  by_cases hi : a ≤ i
  · exact hs i j hi g1 g2
  · have hj : j < a := by rcases h0 with rfl | rfl <;> omega
    rw [msort_out (by omega) (by omega) (.inl (by omega)), msort_out (by omega) (by omega) (.inl hj)]
    exact h5 i j g1 hj g3
theorem JI_end2 {l : List Nat} {N s a : Nat} {M : List Nat} (h : JI l N s (a, M)) (hN : N ≤ a + s) : SB N (2 * s) M ∧ SS l M ∧ M.length = N := by
  obtain ⟨h0, h1, h2, h3, h4, h5, h6⟩ := h
  simp only [] at h1 h2 h3 h4 h5 h6
  refine ⟨fun i j g1 g2 g3 => ?_, h4, h3⟩
  by_cases hi : a ≤ i
  · exact h6 i j hi g1 g2 (by rcases h0 with rfl | rfl <;> omega)
  · exact h5 i j g1 (by rcases h0 with rfl | rfl <;> omega) g3
theorem SB_all {l : List Nat} {N s : Nat} {M : List Nat} (hf : ∀ x ∈ l, Fnt .f32 x) (h1 : SB N s M) (h2 : SS l M) (h3 : M.length = N) (hN : N ≤ s) : M = sortF l :=
  sortF_of hf (srt_all fun i j _ g1 g2 => h1 i j g1 (by omega) (by rw [Nat.div_eq_of_lt (by omega), Nat.div_eq_of_lt (by omega)])) h2
/-! the walks -/
theorem part_swp {P m S : List Nat} {j a : Nat} (hj : j + 1 < m.length) (ha : a = P.length + j) : ((P ++ m ++ S).set (a + 1) ((P ++ m ++ S).getD a 0)).set a ((P ++ m ++ S).getD (a + 1) 0) = P ++ swp m (j + 1) ++ S := by
  rw [app_at P m S (i := a) (t := j) ha (by omega), app_at P m S (i := a + 1) (t := j + 1) (by omega) hj]
  unfold swp
  subst ha
  rw [List.append_assoc, List.set_append, if_neg (by omega), List.set_append, if_neg (by omega), show P.length + j + 1 - P.length = j + 1 by omega, show P.length + j - P.length = j by omega, List.set_append, if_pos hj, List.set_append, if_pos (by simp; omega), List.append_assoc]
  rfl
theorem insertR_c (N : Nat) (P A S L L' : List Nat) (a b : Int) (hN : L.length = N) (hN2 : N ≤ 1048576) (hL : L = P ++ A ++ S) (hL' : L' = P ++ sortF A ++ S) (ha : a = (P.length : Nat)) (hb : b = ((P.length + A.length : Nat) : Int)) :
    TMut Try.prog 227 [.argo 0 900 0 N, .t (.v (.int .i64 a)), .t (.v (.int .i64 b)), .arg 3 (.fn 214 [])] [(900, .sl 30 (.fl L))] (.tup []) [(900, .sl 30 (.fl L'))] [] := by
  subst ha hb
  have hsum : P.length + A.length + S.length = N := by rw [← hN, hL]; simp; omega
  have hlen : ∀ m : List Nat, m.length = A.length → (P ++ m ++ S).length = N := fun m hm => by simp; omega
  refine tmut_of Try.func227 rfl (by kernel_rfl) (Nat.le_of_ble_eq_true rfl) rfl ?_
  simp only [slotsL]
  repeat (first | (refine w_q (h := ?_)) | (refine w_s (h := ?_)) | (refine w_t (h := ?_)) | (refine w_k (h := ?_)) | (refine y_q (h := ?_)) | (refine y_s (h := ?_)) | (refine y_t (h := ?_)) | (refine y_k (h := ?_)) | (refine lex_nil (by kernel_rfl) ?_) | (refine awp_sq ?_) | (refine awp_rg ?_) | (refine awp_rd (by kernel_rfl) (by kernel_rfl) ?_) | (refine awp_block ?_) | (refine awp_exit ?_) | (refine awp_ret ?_) | (refine awp_skip ?_))
  refine awp_loop (X := Nat) (fun k => k ≤ A.length - 1) (fun k => [(0, .argo 0 900 0 N), (1, .t (.v (.int .i64 (P.length : Nat)))), (2, .t (.v (.int .i64 ((P.length + A.length : Nat) : Int)))), (3, .arg 3 (.fn 214 [])), (8, .t (.v (.int .i64 ((P.length + k + 1 : Nat) : Int))))]) (fun k => [(900, .sl 30 (.fl (P ++ srt A k ++ S)))]) (fun k => A.length - k)
    0 ⟨by omega, fun i => i, ⟨rfl, rfl, rfl, rfl, rfl, trivial⟩, ⟨sl_eq (congrArg T.fl (by rw [hL]; rfl)), trivial⟩, injOn_id _⟩ (fun k hk => ?_)
  have hz := srt_len A k
  repeat (first | (refine w_q (h := ?_)) | (refine w_s (h := ?_)) | (refine w_t (h := ?_)) | (refine w_k (h := ?_)) | (refine y_q (h := ?_)) | (refine y_s (h := ?_)) | (refine y_t (h := ?_)) | (refine y_k (h := ?_)) | (refine lex_nil (by kernel_rfl) ?_) | (refine awp_sq ?_) | (refine awp_rg ?_) | (refine awp_rd (by kernel_rfl) (by kernel_rfl) ?_) | (refine awp_block ?_) | (refine awp_exit ?_) | (refine awp_ret ?_) | (refine awp_skip ?_))
  refine awp_if rfl (fun h => ?_) (fun h => ?_)
  · simp only [icmp, decide_eq_true_eq] at h
    repeat (first | (refine w_q (h := ?_)) | (refine w_s (h := ?_)) | (refine w_t (h := ?_)) | (refine w_k (h := ?_)) | (refine y_q (h := ?_)) | (refine y_s (h := ?_)) | (refine y_t (h := ?_)) | (refine y_k (h := ?_)) | (refine lex_nil (by kernel_rfl) ?_) | (refine awp_sq ?_) | (refine awp_rg ?_) | (refine awp_rd (by kernel_rfl) (by kernel_rfl) ?_) | (refine awp_block ?_) | (refine awp_exit ?_) | (refine awp_ret ?_) | (refine awp_skip ?_))
    refine awp_loop (X := Nat × List Nat) (fun x => x.1 ≤ k + 1 ∧ x.2.length = A.length ∧ sink x.1 x.2 = srt A (k + 1)) (fun x => [(0, .argo 0 900 0 N), (1, .t (.v (.int .i64 (P.length : Nat)))), (2, .t (.v (.int .i64 ((P.length + A.length : Nat) : Int)))), (3, .arg 3 (.fn 214 [])), (8, .t (.v (.int .i64 ((P.length + k + 1 : Nat) : Int)))), (9, .t (.v (.int .i64 ((P.length + x.1 : Nat) : Int))))]) (fun x => [(900, .sl 30 (.fl (P ++ x.2 ++ S)))]) (fun x => x.1)
      (k + 1, srt A k) ⟨⟨by simp only []; omega, by simp only []; omega, rfl⟩, fun i => i, ⟨rfl, rfl, rfl, rfl, rfl, rfl, trivial⟩, ⟨rfl, trivial⟩, injOn_id _⟩ (fun x hx => ?_)
    obtain ⟨j, m⟩ := x
    obtain ⟨q1, q2, q3⟩ := hx
    simp only [] at q1 q2 q3
    dsimp only
    have hlm := hlen m q2
    repeat (first | (refine w_q (h := ?_)) | (refine w_s (h := ?_)) | (refine w_t (h := ?_)) | (refine w_k (h := ?_)) | (refine y_q (h := ?_)) | (refine y_s (h := ?_)) | (refine y_t (h := ?_)) | (refine y_k (h := ?_)) | (refine lex_nil (by kernel_rfl) ?_) | (refine awp_sq ?_) | (refine awp_rg ?_) | (refine awp_rd (by kernel_rfl) (by kernel_rfl) ?_) | (refine awp_block ?_) | (refine awp_exit ?_) | (refine awp_ret ?_) | (refine awp_skip ?_))
    refine lex_if rfl rfl rfl (fun h1 => ?_) (fun h1 => ?_)
    · simp only [icmp, decide_eq_true_eq] at h1
      obtain ⟨j, rfl⟩ : ∃ i, j = i + 1 := ⟨j - 1, by omega⟩
      have hsw := part_swp (P := P) (m := m) (S := S) (j := j) (a := P.length + j) (by omega) rfl
      have g1 := app_at P m S (i := 0 + (P.length + (j + 1))) (t := j + 1) (by omega) (by omega)
      have g2 := app_at P m S (i := 0 + (P.length + j)) (t := j) (by omega) (by omega)
      have hsl : ((P ++ m ++ S).set (0 + (P.length + (j + 1))) ((P ++ m ++ S).getD (0 + (P.length + j)) 0)).length = N := by rw [List.length_set, hlm]
      repeat (first | (refine w_q (h := ?_)) | (refine w_s (h := ?_)) | (refine w_t (h := ?_)) | (refine w_k (h := ?_)) | (refine y_q (h := ?_)) | (refine y_s (h := ?_)) | (refine y_t (h := ?_)) | (refine y_k (h := ?_)) | (refine lex_nil (by kernel_rfl) ?_) | (refine awp_sq ?_) | (refine awp_rg ?_) | (refine awp_rd (by kernel_rfl) (by kernel_rfl) ?_) | (refine awp_block ?_) | (refine awp_exit ?_) | (refine awp_ret ?_) | (refine awp_skip ?_) | (first | (refine w_r (q_idx_own (P.length + (j + 1)) tyOk rfl rfl rfl rfl rfl rfl rfl (by omega) (by first | omega | (simp only [T.len]; omega) | assumption)) (h := ?_)) | (refine y_r (q_idx_own (P.length + (j + 1)) tyOk rfl rfl rfl rfl rfl rfl rfl (by omega) (by first | omega | (simp only [T.len]; omega) | assumption)) (h := ?_))) | (first | (refine w_r (q_idx_own (P.length + j) tyOk rfl rfl rfl rfl rfl rfl rfl (by omega) (by first | omega | (simp only [T.len]; omega) | assumption)) (h := ?_)) | (refine y_r (q_idx_own (P.length + j) tyOk rfl rfl rfl rfl rfl rfl rfl (by omega) (by first | omega | (simp only [T.len]; omega) | assumption)) (h := ?_))))
      rw [g1, g2]
      (first | (refine c_q (sorted1_c _ _) (h := ?_)) | (refine z_q (sorted1_c _ _) (h := ?_)))
      repeat (first | (refine w_q (h := ?_)) | (refine w_s (h := ?_)) | (refine w_t (h := ?_)) | (refine w_k (h := ?_)) | (refine y_q (h := ?_)) | (refine y_s (h := ?_)) | (refine y_t (h := ?_)) | (refine y_k (h := ?_)) | (refine lex_nil (by kernel_rfl) ?_) | (refine awp_sq ?_) | (refine awp_rg ?_) | (refine awp_rd (by kernel_rfl) (by kernel_rfl) ?_) | (refine awp_block ?_) | (refine awp_exit ?_) | (refine awp_ret ?_) | (refine awp_skip ?_))
      refine awp_if rfl (fun h2 => ?_) (fun h2 => ?_)
      · rw [cmpI_neg] at h2
        repeat (first | (refine w_q (h := ?_)) | (refine w_s (h := ?_)) | (refine w_t (h := ?_)) | (refine w_k (h := ?_)) | (refine y_q (h := ?_)) | (refine y_s (h := ?_)) | (refine y_t (h := ?_)) | (refine y_k (h := ?_)) | (refine lex_nil (by kernel_rfl) ?_) | (refine awp_sq ?_) | (refine awp_rg ?_) | (refine awp_rd (by kernel_rfl) (by kernel_rfl) ?_) | (refine awp_block ?_) | (refine awp_exit ?_) | (refine awp_ret ?_) | (refine awp_skip ?_) | (first | (refine w_r (q_idx_own (P.length + (j + 1)) tyOk rfl rfl rfl rfl rfl rfl rfl (by omega) (by first | omega | (simp only [T.len]; omega) | assumption)) (h := ?_)) | (refine y_r (q_idx_own (P.length + (j + 1)) tyOk rfl rfl rfl rfl rfl rfl rfl (by omega) (by first | omega | (simp only [T.len]; omega) | assumption)) (h := ?_))) | (first | (refine w_r (q_idx_own (P.length + j) tyOk rfl rfl rfl rfl rfl rfl rfl (by omega) (by first | omega | (simp only [T.len]; omega) | assumption)) (h := ?_)) | (refine y_r (q_idx_own (P.length + j) tyOk rfl rfl rfl rfl rfl rfl rfl (by omega) (by first | omega | (simp only [T.len]; omega) | assumption)) (h := ?_))))
        exact ⟨(j, swp m (j + 1)), by simp only []; omega, ⟨by simp only []; omega, by simp only [swp_len]; exact q2, by simp only []; rw [← q3, sink_t (by simpa using h2)]⟩, fun i => i, ⟨rfl, rfl, rfl, rfl, rfl, iESo (by simp only []; omega), trivial⟩, ⟨sl_eq (congrArg T.fl (by simp only [Nat.zero_add]; exact hsw)), trivial⟩, injOn_id _⟩
      · rw [cmpI_neg] at h2
        have e := sink_f (j := j) (m := m) (by simpa using h2)
        rw [e] at q3
        subst q3
        repeat (first | (refine w_q (h := ?_)) | (refine w_s (h := ?_)) | (refine w_t (h := ?_)) | (refine w_k (h := ?_)) | (refine y_q (h := ?_)) | (refine y_s (h := ?_)) | (refine y_t (h := ?_)) | (refine y_k (h := ?_)) | (refine lex_nil (by kernel_rfl) ?_) | (refine awp_sq ?_) | (refine awp_rg ?_) | (refine awp_rd (by kernel_rfl) (by kernel_rfl) ?_) | (refine awp_block ?_) | (refine awp_exit ?_) | (refine awp_ret ?_) | (refine awp_skip ?_))
        exact ⟨k + 1, by omega, by omega, fun i => i, ⟨rfl, rfl, rfl, rfl, iESo (by omega), trivial⟩, ⟨rfl, trivial⟩, injOn_id _⟩
    · simp only [icmp, decide_eq_false_iff_not] at h1
      obtain rfl : j = 0 := by omega
      rw [sink] at q3
      subst q3
      repeat (first | (refine w_q (h := ?_)) | (refine w_s (h := ?_)) | (refine w_t (h := ?_)) | (refine w_k (h := ?_)) | (refine y_q (h := ?_)) | (refine y_s (h := ?_)) | (refine y_t (h := ?_)) | (refine y_k (h := ?_)) | (refine lex_nil (by kernel_rfl) ?_) | (refine awp_sq ?_) | (refine awp_rg ?_) | (refine awp_rd (by kernel_rfl) (by kernel_rfl) ?_) | (refine awp_block ?_) | (refine awp_exit ?_) | (refine awp_ret ?_) | (refine awp_skip ?_))
      refine awp_ifF rfl rfl ?_
      repeat (first | (refine w_q (h := ?_)) | (refine w_s (h := ?_)) | (refine w_t (h := ?_)) | (refine w_k (h := ?_)) | (refine y_q (h := ?_)) | (refine y_s (h := ?_)) | (refine y_t (h := ?_)) | (refine y_k (h := ?_)) | (refine lex_nil (by kernel_rfl) ?_) | (refine awp_sq ?_) | (refine awp_rg ?_) | (refine awp_rd (by kernel_rfl) (by kernel_rfl) ?_) | (refine awp_block ?_) | (refine awp_exit ?_) | (refine awp_ret ?_) | (refine awp_skip ?_))
      exact ⟨k + 1, by omega, by omega, fun i => i, ⟨rfl, rfl, rfl, rfl, iESo (by omega), trivial⟩, ⟨rfl, trivial⟩, injOn_id _⟩
  · simp only [icmp, decide_eq_false_iff_not] at h
    obtain rfl : k = A.length - 1 := by omega
    rw [show P ++ srt A (A.length - 1) ++ S = L' from hL'.symm]
    repeat (first | (refine w_q (h := ?_)) | (refine w_s (h := ?_)) | (refine w_t (h := ?_)) | (refine w_k (h := ?_)) | (refine y_q (h := ?_)) | (refine y_s (h := ?_)) | (refine y_t (h := ?_)) | (refine y_k (h := ?_)) | (refine lex_nil (by kernel_rfl) ?_) | (refine awp_sq ?_) | (refine awp_rg ?_) | (refine awp_rd (by kernel_rfl) (by kernel_rfl) ?_) | (refine awp_block ?_) | (refine awp_exit ?_) | (refine awp_ret ?_) | (refine awp_skip ?_))
    refine mret_ok tyOk (by first | exact .inr rfl | exact .inl rfl) (piA 900 900) rfl .nil ?_ ⟨rfl, trivial⟩ (injO_1 _ _ _) (held1 0 0 900 0 _ 0 _ rfl rfl rfl)
    exact rr_tup .nil
theorem stable64_c (l : List Nat) (hl : l.length ≤ 64) (hf : ∀ x ∈ l, Fnt .f32 x) :
    TMut Try.prog 223 [.argo 0 900 0 l.length, .t (.v (.int .i64 (l.length : Nat))), .arg 2 (.fn 214 [])] [(900, .sl 30 (.fl l))] (.tup []) [(900, .sl 30 (.fl (sortF l)))] [] := by
  obtain ⟨N, hN⟩ : ∃ N, N = l.length := ⟨_, rfl⟩
  rw [← hN] at hl ⊢
  refine tmut_of Try.func223 rfl (by kernel_rfl) (Nat.le_of_ble_eq_true rfl) rfl ?_
  simp only [slotsL]
  repeat (first | (refine w_q (h := ?_)) | (refine w_s (h := ?_)) | (refine w_t (h := ?_)) | (refine w_k (h := ?_)) | (refine y_q (h := ?_)) | (refine y_s (h := ?_)) | (refine y_t (h := ?_)) | (refine y_k (h := ?_)) | (refine lex_nil (by kernel_rfl) ?_) | (refine awp_sq ?_) | (refine awp_rg ?_) | (refine awp_rd (by kernel_rfl) (by kernel_rfl) ?_) | (refine awp_block ?_) | (refine awp_exit ?_) | (refine awp_ret ?_) | (refine awp_skip ?_))
  refine awp_loop (X := Nat × List Nat) (KI l N) (fun x => [(0, .argo 0 900 0 N), (1, .t (.v (.int .i64 (N : Nat)))), (2, .arg 2 (.fn 214 [])), (6, .t (.v (.int .i64 20))), (7, .t (.v (.int .i64 (x.1 : Nat)))), (8, .t (.v (.int .i64 ((x.1 + 20 : Nat) : Int))))]) (fun x => [(900, .sl 30 (.fl x.2))]) (fun x => N - x.1)
    (0, l) ⟨⟨rfl, Nat.zero_le _, hN.symm, SS.refl l, fun i j _ g => absurd g (Nat.not_lt_zero j)⟩, fun i => i, ⟨rfl, rfl, rfl, rfl, rfl, rfl, trivial⟩, ⟨rfl, trivial⟩, injOn_id _⟩ (fun x hx => ?_)
  obtain ⟨a, M⟩ := x
  have haN : a ≤ N := hx.2.1
  have hM : M.length = N := hx.2.2.1
  dsimp only
  repeat (first | (refine w_q (h := ?_)) | (refine w_s (h := ?_)) | (refine w_t (h := ?_)) | (refine w_k (h := ?_)) | (refine y_q (h := ?_)) | (refine y_s (h := ?_)) | (refine y_t (h := ?_)) | (refine y_k (h := ?_)) | (refine lex_nil (by kernel_rfl) ?_) | (refine awp_sq ?_) | (refine awp_rg ?_) | (refine awp_rd (by kernel_rfl) (by kernel_rfl) ?_) | (refine awp_block ?_) | (refine awp_exit ?_) | (refine awp_ret ?_) | (refine awp_skip ?_))
  refine awp_if rfl (fun h => ?_) (fun h => ?_)
  · simp only [icmp, decide_eq_true_eq] at h
    have hk := KI_S hf hx rfl (show a + 20 ≤ N by omega)
    have hta : (M.take a).length = a := by rw [List.length_take]; omega
    repeat (first | (refine w_q (h := ?_)) | (refine w_s (h := ?_)) | (refine w_t (h := ?_)) | (refine w_k (h := ?_)) | (refine y_q (h := ?_)) | (refine y_s (h := ?_)) | (refine y_t (h := ?_)) | (refine y_k (h := ?_)) | (refine lex_nil (by kernel_rfl) ?_) | (refine awp_sq ?_) | (refine awp_rg ?_) | (refine awp_rd (by kernel_rfl) (by kernel_rfl) ?_) | (refine awp_block ?_) | (refine awp_exit ?_) | (refine awp_ret ?_) | (refine awp_skip ?_))
    (refine m_s [(900, _)] (insertR_c N (M.take a) ((M.take (a + 20)).drop a) (M.drop (a + 20)) M (msort M a (a + 20)) (a : Nat) ((a + 20 : Nat) : Int) hM (by omega) (cut3 (by omega)) rfl (by omega) (by rw [hta, mid_len (by omega)]; omega)) (h := ?_))
    repeat (first | (refine w_q (h := ?_)) | (refine w_s (h := ?_)) | (refine w_t (h := ?_)) | (refine w_k (h := ?_)) | (refine y_q (h := ?_)) | (refine y_s (h := ?_)) | (refine y_t (h := ?_)) | (refine y_k (h := ?_)) | (refine lex_nil (by kernel_rfl) ?_) | (refine awp_sq ?_) | (refine awp_rg ?_) | (refine awp_rd (by kernel_rfl) (by kernel_rfl) ?_) | (refine awp_block ?_) | (refine awp_exit ?_) | (refine awp_ret ?_) | (refine awp_skip ?_))
    exact ⟨(a + 20, msort M a (a + 20)), by simp only []; omega, hk, fun i => i, ⟨rfl, rfl, rfl, rfl, rfl, iESo (by simp only []; omega), trivial⟩, ⟨rfl, trivial⟩, injOn_id _⟩
  simp only [icmp, decide_eq_false_iff_not] at h
  obtain ⟨e1, e2, e3⟩ := KI_end hf hx (by omega)
  have hta : (M.take a).length = a := by rw [List.length_take]; omega
  repeat (first | (refine w_q (h := ?_)) | (refine w_s (h := ?_)) | (refine w_t (h := ?_)) | (refine w_k (h := ?_)) | (refine y_q (h := ?_)) | (refine y_s (h := ?_)) | (refine y_t (h := ?_)) | (refine y_k (h := ?_)) | (refine lex_nil (by kernel_rfl) ?_) | (refine awp_sq ?_) | (refine awp_rg ?_) | (refine awp_rd (by kernel_rfl) (by kernel_rfl) ?_) | (refine awp_block ?_) | (refine awp_exit ?_) | (refine awp_ret ?_) | (refine awp_skip ?_))
  (refine m_s [(900, _)] (insertR_c N (M.take a) ((M.take N).drop a) (M.drop N) M (msort M a N) (a : Nat) (N : Nat) hM (by omega) (cut3 (by omega)) rfl (by omega) (by rw [hta, mid_len (by omega)]; omega)) (h := ?_))
  generalize msort M a N = M0 at *
  clear hx hM haN h hta
  repeat (first | (refine w_q (h := ?_)) | (refine w_s (h := ?_)) | (refine w_t (h := ?_)) | (refine w_k (h := ?_)) | (refine y_q (h := ?_)) | (refine y_s (h := ?_)) | (refine y_t (h := ?_)) | (refine y_k (h := ?_)) | (refine lex_nil (by kernel_rfl) ?_) | (refine awp_sq ?_) | (refine awp_rg ?_) | (refine awp_rd (by kernel_rfl) (by kernel_rfl) ?_) | (refine awp_block ?_) | (refine awp_exit ?_) | (refine awp_ret ?_) | (refine awp_skip ?_))
  refine awp_loop (X := Nat × List Nat) (fun x => (x.1 = 20 ∨ x.1 = 40 ∨ x.1 = 80) ∧ SB N x.1 x.2 ∧ SS l x.2 ∧ x.2.length = N) (fun x => [(0, .argo 0 900 0 N), (1, .t (.v (.int .i64 (N : Nat)))), (2, .arg 2 (.fn 214 [])), (6, .t (.v (.int .i64 (x.1 : Nat))))]) (fun x => [(900, .sl 30 (.fl x.2))]) (fun x => N - x.1)
    (20, M0) ⟨⟨.inl rfl, e1, e2, e3⟩, fun i => i, ⟨rfl, rfl, rfl, rfl, trivial⟩, ⟨rfl, trivial⟩, injOn_id _⟩ (fun x hx => ?_)
  obtain ⟨s, M⟩ := x
  obtain ⟨hs, g1, g2, g3⟩ := hx
  simp only [] at hs g1 g2 g3
  clear e1 e2 e3
  dsimp only
  repeat (first | (refine w_q (h := ?_)) | (refine w_s (h := ?_)) | (refine w_t (h := ?_)) | (refine w_k (h := ?_)) | (refine y_q (h := ?_)) | (refine y_s (h := ?_)) | (refine y_t (h := ?_)) | (refine y_k (h := ?_)) | (refine lex_nil (by kernel_rfl) ?_) | (refine awp_sq ?_) | (refine awp_rg ?_) | (refine awp_rd (by kernel_rfl) (by kernel_rfl) ?_) | (refine awp_block ?_) | (refine awp_exit ?_) | (refine awp_ret ?_) | (refine awp_skip ?_))
  refine awp_if rfl (fun h => ?_) (fun h => ?_)
  · simp only [icmp, decide_eq_true_eq] at h
    have hs2 : s = 20 ∨ s = 40 := by omega
    repeat (first | (refine w_q (h := ?_)) | (refine w_s (h := ?_)) | (refine w_t (h := ?_)) | (refine w_k (h := ?_)) | (refine y_q (h := ?_)) | (refine y_s (h := ?_)) | (refine y_t (h := ?_)) | (refine y_k (h := ?_)) | (refine lex_nil (by kernel_rfl) ?_) | (refine awp_sq ?_) | (refine awp_rg ?_) | (refine awp_rd (by kernel_rfl) (by kernel_rfl) ?_) | (refine awp_block ?_) | (refine awp_exit ?_) | (refine awp_ret ?_) | (refine awp_skip ?_))
    (first | (refine w_r (q_mul rfl rfl rfl (by omega)) (h := ?_)) | (refine y_r (q_mul rfl rfl rfl (by omega)) (h := ?_)))
    repeat (first | (refine w_q (h := ?_)) | (refine w_s (h := ?_)) | (refine w_t (h := ?_)) | (refine w_k (h := ?_)) | (refine y_q (h := ?_)) | (refine y_s (h := ?_)) | (refine y_t (h := ?_)) | (refine y_k (h := ?_)) | (refine lex_nil (by kernel_rfl) ?_) | (refine awp_sq ?_) | (refine awp_rg ?_) | (refine awp_rd (by kernel_rfl) (by kernel_rfl) ?_) | (refine awp_block ?_) | (refine awp_exit ?_) | (refine awp_ret ?_) | (refine awp_skip ?_))
    refine awp_loop (X := Nat × List Nat) (JI l N s) (fun x => [(0, .argo 0 900 0 N), (1, .t (.v (.int .i64 (N : Nat)))), (2, .arg 2 (.fn 214 [])), (6, .t (.v (.int .i64 (s : Nat)))), (7, .t (.v (.int .i64 (x.1 : Nat)))), (8, .t (.v (.int .i64 ((x.1 + 2 * s : Nat) : Int))))]) (fun x => [(900, .sl 30 (.fl x.2))]) (fun x => N - x.1)
      (0, M) ⟨JI_0 hs2 g1 g2 g3, fun i => i, ⟨rfl, rfl, rfl, rfl, rfl, iESo (by simp), trivial⟩, ⟨rfl, trivial⟩, injOn_id _⟩ (fun x hx => ?_)
    obtain ⟨a, M1⟩ := x
    have haN : a ≤ N := hx.2.2.1
    have hM : M1.length = N := hx.2.2.2.1
    obtain ⟨r1, r2⟩ := JI_sr hx
    have hfM : ∀ x ∈ M1, Fnt .f32 x := fun x hm => hf x (hx.2.2.2.2.1.mem hm)
    have hta : (M1.take a).length = a := by rw [List.length_take]; omega
    clear g1 g2 g3
    dsimp only
    repeat (first | (refine w_q (h := ?_)) | (refine w_s (h := ?_)) | (refine w_t (h := ?_)) | (refine w_k (h := ?_)) | (refine y_q (h := ?_)) | (refine y_s (h := ?_)) | (refine y_t (h := ?_)) | (refine y_k (h := ?_)) | (refine lex_nil (by kernel_rfl) ?_) | (refine awp_sq ?_) | (refine awp_rg ?_) | (refine awp_rd (by kernel_rfl) (by kernel_rfl) ?_) | (refine awp_block ?_) | (refine awp_exit ?_) | (refine awp_ret ?_) | (refine awp_skip ?_))
    refine awp_if rfl (fun h5 => ?_) (fun h5 => ?_)
    · simp only [icmp, decide_eq_true_eq] at h5
      have hk := JI_S hf hx rfl (show a + 2 * s ≤ N by omega)
      have hc4 := cut4 (M := M1) (a := a) (m := a + s) (b := a + 2 * s) (by omega) (by omega)
      have l1 : ((M1.take (a + s)).drop a).length = s := by rw [mid_len (by omega)]; omega
      have l2 : ((M1.take (a + 2 * s)).drop (a + s)).length = s := by rw [mid_len (by omega)]; omega
      repeat (first | (refine w_q (h := ?_)) | (refine w_s (h := ?_)) | (refine w_t (h := ?_)) | (refine w_k (h := ?_)) | (refine y_q (h := ?_)) | (refine y_s (h := ?_)) | (refine y_t (h := ?_)) | (refine y_k (h := ?_)) | (refine lex_nil (by kernel_rfl) ?_) | (refine awp_sq ?_) | (refine awp_rg ?_) | (refine awp_rd (by kernel_rfl) (by kernel_rfl) ?_) | (refine awp_block ?_) | (refine awp_exit ?_) | (refine awp_ret ?_) | (refine awp_skip ?_))
      (refine m_s [(900, _)] (symMerge_c _ N (M1.take a) ((M1.take (a + s)).drop a) ((M1.take (a + 2 * s)).drop (a + s)) (M1.drop (a + 2 * s)) M1 (msort M1 a (a + 2 * s)) (a : Nat) ((a : Int) + (s : Int)) ((a + 2 * s : Nat) : Int) (Nat.le_refl _) hM (by omega) (by omega) (by omega) (sr_srt (r1 (by omega))) (sr_srt (r2 _ (by omega) (by omega) (by omega)))
        (by rw [← hc4]; exact mid_fin hfM) (by rw [List.append_assoc (M1.take a), ← hc4]; exact cut3 (by omega)) (by rw [← hc4]; rfl) (by omega) (by omega) (by omega)) (h := ?_))
      repeat (first | (refine w_q (h := ?_)) | (refine w_s (h := ?_)) | (refine w_t (h := ?_)) | (refine w_k (h := ?_)) | (refine y_q (h := ?_)) | (refine y_s (h := ?_)) | (refine y_t (h := ?_)) | (refine y_k (h := ?_)) | (refine lex_nil (by kernel_rfl) ?_) | (refine awp_sq ?_) | (refine awp_rg ?_) | (refine awp_rd (by kernel_rfl) (by kernel_rfl) ?_) | (refine awp_block ?_) | (refine awp_exit ?_) | (refine awp_ret ?_) | (refine awp_skip ?_))
      (first | (refine w_r (q_mul rfl rfl rfl (by omega)) (h := ?_)) | (refine y_r (q_mul rfl rfl rfl (by omega)) (h := ?_)))
      repeat (first | (refine w_q (h := ?_)) | (refine w_s (h := ?_)) | (refine w_t (h := ?_)) | (refine w_k (h := ?_)) | (refine y_q (h := ?_)) | (refine y_s (h := ?_)) | (refine y_t (h := ?_)) | (refine y_k (h := ?_)) | (refine lex_nil (by kernel_rfl) ?_) | (refine awp_sq ?_) | (refine awp_rg ?_) | (refine awp_rd (by kernel_rfl) (by kernel_rfl) ?_) | (refine awp_block ?_) | (refine awp_exit ?_) | (refine awp_ret ?_) | (refine awp_skip ?_))
      exact ⟨(a + 2 * s, msort M1 a (a + 2 * s)), by simp only []; omega, hk, fun i => i, ⟨rfl, rfl, rfl, rfl, rfl, iESo (by simp only []; omega), trivial⟩, ⟨rfl, trivial⟩, injOn_id _⟩
    simp only [icmp, decide_eq_false_iff_not] at h5
    repeat (first | (refine w_q (h := ?_)) | (refine w_s (h := ?_)) | (refine w_t (h := ?_)) | (refine w_k (h := ?_)) | (refine y_q (h := ?_)) | (refine y_s (h := ?_)) | (refine y_t (h := ?_)) | (refine y_k (h := ?_)) | (refine lex_nil (by kernel_rfl) ?_) | (refine awp_sq ?_) | (refine awp_rg ?_) | (refine awp_rd (by kernel_rfl) (by kernel_rfl) ?_) | (refine awp_block ?_) | (refine awp_exit ?_) | (refine awp_ret ?_) | (refine awp_skip ?_))
    refine awp_if rfl (fun h6 => ?_) (fun h6 => ?_)
    · simp only [icmp, decide_eq_true_eq] at h6
      obtain ⟨e1, e2, e3⟩ := JI_end1 hf hx (by omega)
      have hc4 := cut4 (M := M1) (a := a) (m := a + s) (b := N) (by omega) (by omega)
      have l1 : ((M1.take (a + s)).drop a).length = s := by rw [mid_len (by omega)]; omega
      have l2 : ((M1.take N).drop (a + s)).length = N - (a + s) := by rw [mid_len (by omega)]
      repeat (first | (refine w_q (h := ?_)) | (refine w_s (h := ?_)) | (refine w_t (h := ?_)) | (refine w_k (h := ?_)) | (refine y_q (h := ?_)) | (refine y_s (h := ?_)) | (refine y_t (h := ?_)) | (refine y_k (h := ?_)) | (refine lex_nil (by kernel_rfl) ?_) | (refine awp_sq ?_) | (refine awp_rg ?_) | (refine awp_rd (by kernel_rfl) (by kernel_rfl) ?_) | (refine awp_block ?_) | (refine awp_exit ?_) | (refine awp_ret ?_) | (refine awp_skip ?_))
      (refine m_s [(900, _)] (symMerge_c _ N (M1.take a) ((M1.take (a + s)).drop a) ((M1.take N).drop (a + s)) (M1.drop N) M1 (msort M1 a N) (a : Nat) ((a : Int) + (s : Int)) (N : Nat) (Nat.le_refl _) hM (by omega) (by omega) (by omega) (sr_srt (r1 (by omega))) (sr_srt (r2 _ (by omega) (by omega) (by omega)))
        (by rw [← hc4]; exact mid_fin hfM) (by rw [List.append_assoc (M1.take a), ← hc4]; exact cut3 (by omega)) (by rw [← hc4]; rfl) (by omega) (by omega) (by omega)) (h := ?_))
      repeat (first | (refine w_q (h := ?_)) | (refine w_s (h := ?_)) | (refine w_t (h := ?_)) | (refine w_k (h := ?_)) | (refine y_q (h := ?_)) | (refine y_s (h := ?_)) | (refine y_t (h := ?_)) | (refine y_k (h := ?_)) | (refine lex_nil (by kernel_rfl) ?_) | (refine awp_sq ?_) | (refine awp_rg ?_) | (refine awp_rd (by kernel_rfl) (by kernel_rfl) ?_) | (refine awp_block ?_) | (refine awp_exit ?_) | (refine awp_ret ?_) | (refine awp_skip ?_))
      (first | (refine w_r (q_mul rfl rfl rfl (by omega)) (h := ?_)) | (refine y_r (q_mul rfl rfl rfl (by omega)) (h := ?_)))
      repeat (first | (refine w_q (h := ?_)) | (refine w_s (h := ?_)) | (refine w_t (h := ?_)) | (refine w_k (h := ?_)) | (refine y_q (h := ?_)) | (refine y_s (h := ?_)) | (refine y_t (h := ?_)) | (refine y_k (h := ?_)) | (refine lex_nil (by kernel_rfl) ?_) | (refine awp_sq ?_) | (refine awp_rg ?_) | (refine awp_rd (by kernel_rfl) (by kernel_rfl) ?_) | (refine awp_block ?_) | (refine awp_exit ?_) | (refine awp_ret ?_) | (refine awp_skip ?_))
      exact ⟨(2 * s, msort M1 a N), by simp only []; omega, ⟨by simp only []; omega, e1, e2, e3⟩, fun i => i, ⟨rfl, rfl, rfl, iESo (by simp only []; omega), trivial⟩, ⟨rfl, trivial⟩, injOn_id _⟩
    · simp only [icmp, decide_eq_false_iff_not] at h6
      obtain ⟨e1, e2, e3⟩ := JI_end2 hx (by omega)
      repeat (first | (refine w_q (h := ?_)) | (refine w_s (h := ?_)) | (refine w_t (h := ?_)) | (refine w_k (h := ?_)) | (refine y_q (h := ?_)) | (refine y_s (h := ?_)) | (refine y_t (h := ?_)) | (refine y_k (h := ?_)) | (refine lex_nil (by kernel_rfl) ?_) | (refine awp_sq ?_) | (refine awp_rg ?_) | (refine awp_rd (by kernel_rfl) (by kernel_rfl) ?_) | (refine awp_block ?_) | (refine awp_exit ?_) | (refine awp_ret ?_) | (refine awp_skip ?_))
      (first | (refine w_r (q_mul rfl rfl rfl (by omega)) (h := ?_)) | (refine y_r (q_mul rfl rfl rfl (by omega)) (h := ?_)))
      repeat (first | (refine w_q (h := ?_)) | (refine w_s (h := ?_)) | (refine w_t (h := ?_)) | (refine w_k (h := ?_)) | (refine y_q (h := ?_)) | (refine y_s (h := ?_)) | (refine y_t (h := ?_)) | (refine y_k (h := ?_)) | (refine lex_nil (by kernel_rfl) ?_) | (refine awp_sq ?_) | (refine awp_rg ?_) | (refine awp_rd (by kernel_rfl) (by kernel_rfl) ?_) | (refine awp_block ?_) | (refine awp_exit ?_) | (refine awp_ret ?_) | (refine awp_skip ?_))
      exact ⟨(2 * s, M1), by simp only []; omega, ⟨by simp only []; omega, e1, e2, e3⟩, fun i => i, ⟨rfl, rfl, rfl, iESo (by simp only []; omega), trivial⟩, ⟨rfl, trivial⟩, injOn_id _⟩
  simp only [icmp, decide_eq_false_iff_not] at h
  rw [show M = sortF l from SB_all hf g1 g2 g3 (by omega)]
  repeat (first | (refine w_q (h := ?_)) | (refine w_s (h := ?_)) | (refine w_t (h := ?_)) | (refine w_k (h := ?_)) | (refine y_q (h := ?_)) | (refine y_s (h := ?_)) | (refine y_t (h := ?_)) | (refine y_k (h := ?_)) | (refine lex_nil (by kernel_rfl) ?_) | (refine awp_sq ?_) | (refine awp_rg ?_) | (refine awp_rd (by kernel_rfl) (by kernel_rfl) ?_) | (refine awp_block ?_) | (refine awp_exit ?_) | (refine awp_ret ?_) | (refine awp_skip ?_))
  refine mret_ok tyOk (by first | exact .inr rfl | exact .inl rfl) (piA 900 900) rfl .nil ?_ ⟨rfl, trivial⟩ (injO_1 _ _ _) (held1 0 0 900 0 _ 0 _ rfl rfl rfl)
  exact rr_tup .nil
end Go.Proofs.Ytmnpdipiffmnhaa

