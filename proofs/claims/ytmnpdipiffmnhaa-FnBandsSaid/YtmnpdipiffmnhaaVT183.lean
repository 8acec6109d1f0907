import Derived.Test.YtmnpdipiffmnhaaVT182
set_option linter.unusedVariables false
set_option linter.unusedSimpArgs false
set_option maxRecDepth 20000
set_option maxHeartbeats 8000000
namespace Go.Proofs.Ytmnpdipiffmnhaa
open Go.Aw

/-! ### needs by chance -/
def isN (x : Nat) : Nat := if fcmp .gtr .f32 x 0 = true then 1065353216 else 0
def chS (l : List Nat) (s c f : Nat) : Nat → Nat × Nat
  | 0 => (l.getD f 0, fop .quo .f32 1065353216 (fint .f32 ((f : Int) + 1)))
  | j + 1 => (if fcmp .gtr .f32 (l.getD (f + 1 + j) 0) 0 = true then fop .add .f32 (chS l s c f j).1 (fop .mul .f32 s (fop .sub .f32 (l.getD (f + 1 + j) 0) (chS l s c f j).1)) else (chS l s c f j).1,
      fop .add .f32 (chS l s c f j).2 (fop .mul .f32 c (fop .sub .f32 (isN (l.getD (f + 1 + j) 0)) (chS l s c f j).2)))
theorem chS_0 (l : List Nat) (s c f : Nat) : chS l s c f 0 = (l.getD f 0, fop .quo .f32 1065353216 (fint .f32 ((f : Int) + 1))) := rfl
theorem chS_t {l : List Nat} {s c f j : Nat} (h : fcmp .gtr .f32 (l.getD (f + 1 + j) 0) 0 = true) : chS l s c f (j + 1) = (fop .add .f32 (chS l s c f j).1 (fop .mul .f32 s (fop .sub .f32 (l.getD (f + 1 + j) 0) (chS l s c f j).1)), fop .add .f32 (chS l s c f j).2 (fop .mul .f32 c (fop .sub .f32 1065353216 (chS l s c f j).2))) := by
  rw [chS, if_pos h, isN, if_pos h]
theorem chS_f {l : List Nat} {s c f j : Nat} (h : fcmp .gtr .f32 (l.getD (f + 1 + j) 0) 0 = false) : chS l s c f (j + 1) = ((chS l s c f j).1, fop .add .f32 (chS l s c f j).2 (fop .mul .f32 c (fop .sub .f32 0 (chS l s c f j).2))) := by
  have h' : ¬ fcmp .gtr .f32 (l.getD (f + 1 + j) 0) 0 = true := by rw [h]; exact Bool.false_ne_true
  rw [chS, if_neg h', isN, if_neg h']
attribute [local irreducible] QRun LexD AWp TCall TMut fop fint fcmp fconv chS
theorem chance_t {l : List Nat} {s c f : Nat} (h1 : isSer l = true) (h2 : l.all least = true) (h3 : isShr s = true) (h3c : isShr c = true) (h4 : idxOf (fun x => fcmp .gtr .f32 x 0) l = (f : Nat)) (hf : f + 1 < l.length) (hq : fin (fop .mul .f32 (chS l s c f (l.length - (f + 1))).1 (chS l s c f (l.length - (f + 1))).2) = true) :
    TCall Try.prog 61 [.fl l, .f .f32 s, .f .f32 c] (.tup [.t (.f .f32 (fop .mul .f32 (chS l s c f (l.length - (f + 1))).1 (chS l s c f (l.length - (f + 1))).2)), .t (.v (.bool true))]) [] := by
  have hl := isSer_len h1
  have h0 := chS_0 l s c f
  refine tcall_of Try.func61 rfl (by kernel_rfl) (Nat.le_of_ble_eq_true rfl) rfl ?_
  simp only [argsL, argAV, argCs, argS]
  repeat (first | (refine w_q (h := ?_)) | (refine w_s (h := ?_)) | (refine w_t (h := ?_)) | (refine w_k (h := ?_)) | (refine y_q (h := ?_)) | (refine y_s (h := ?_)) | (refine y_t (h := ?_)) | (refine y_k (h := ?_)) | (refine lex_nil (by kernel_rfl) ?_) | (refine awp_sq ?_) | (refine awp_rg ?_) | (refine awp_rd (by kernel_rfl) (by kernel_rfl) ?_) | (refine awp_block ?_) | (refine awp_exit ?_) | (refine awp_ret ?_) | (refine awp_skip ?_))
  (first | (refine c_q (firstNeed_c h1 h2 h3 h4) (h := ?_)) | (refine z_q (firstNeed_c h1 h2 h3 h4) (h := ?_)))
  repeat (first | (refine w_q (h := ?_)) | (refine w_s (h := ?_)) | (refine w_t (h := ?_)) | (refine w_k (h := ?_)) | (refine y_q (h := ?_)) | (refine y_s (h := ?_)) | (refine y_t (h := ?_)) | (refine y_k (h := ?_)) | (refine lex_nil (by kernel_rfl) ?_) | (refine awp_sq ?_) | (refine awp_rg ?_) | (refine awp_rd (by kernel_rfl) (by kernel_rfl) ?_) | (refine awp_block ?_) | (refine awp_exit ?_) | (refine awp_ret ?_) | (refine awp_skip ?_))
  refine lex_if rfl rfl rfl (fun g => ?_) (fun g => ?_)
  · simp only [icmp, decide_eq_true_eq] at g; omega
  repeat (first | (refine w_q (h := ?_)) | (refine w_s (h := ?_)) | (refine w_t (h := ?_)) | (refine w_k (h := ?_)) | (refine y_q (h := ?_)) | (refine y_s (h := ?_)) | (refine y_t (h := ?_)) | (refine y_k (h := ?_)) | (refine lex_nil (by kernel_rfl) ?_) | (refine awp_sq ?_) | (refine awp_rg ?_) | (refine awp_rd (by kernel_rfl) (by kernel_rfl) ?_) | (refine awp_block ?_) | (refine awp_exit ?_) | (refine awp_ret ?_) | (refine awp_skip ?_))
  (first | (refine c_q (isShare_c _) (h := ?_)) | (refine z_q (isShare_c _) (h := ?_)))
  rw [h3c]
  repeat (first | (refine w_q (h := ?_)) | (refine w_s (h := ?_)) | (refine w_t (h := ?_)) | (refine w_k (h := ?_)) | (refine y_q (h := ?_)) | (refine y_s (h := ?_)) | (refine y_t (h := ?_)) | (refine y_k (h := ?_)) | (refine lex_nil (by kernel_rfl) ?_) | (refine awp_sq ?_) | (refine awp_rg ?_) | (refine awp_rd (by kernel_rfl) (by kernel_rfl) ?_) | (refine awp_block ?_) | (refine awp_exit ?_) | (refine awp_ret ?_) | (refine awp_skip ?_))
  refine awp_ifF rfl rfl ?_
  repeat (first | (refine w_q (h := ?_)) | (refine w_s (h := ?_)) | (refine w_t (h := ?_)) | (refine w_k (h := ?_)) | (refine y_q (h := ?_)) | (refine y_s (h := ?_)) | (refine y_t (h := ?_)) | (refine y_k (h := ?_)) | (refine lex_nil (by kernel_rfl) ?_) | (refine awp_sq ?_) | (refine awp_rg ?_) | (refine awp_rd (by kernel_rfl) (by kernel_rfl) ?_) | (refine awp_block ?_) | (refine awp_exit ?_) | (refine awp_ret ?_) | (refine awp_skip ?_))
  have hk1 : ((f : Int) + 1) = ((f + 1 : Nat) : Int) := by omega
  (first | (refine w_r (q_slice_tree (f + 1) l.length tyOk rfl rfl rfl rfl rfl rfl rfl (by exact ⟨_, _, rfl, hk1⟩) (by exact rfl) (by omega) (by simp only [T.len]; omega)) (h := ?_)) | (refine y_r (q_slice_tree (f + 1) l.length tyOk rfl rfl rfl rfl rfl rfl rfl (by exact ⟨_, _, rfl, hk1⟩) (by exact rfl) (by omega) (by simp only [T.len]; omega)) (h := ?_)))
  have hQl : ((l.take l.length).drop (f + 1)).length = l.length - (f + 1) := by simp
  have hQg : ∀ i, ((l.take l.length).drop (f + 1)).getD i 0 = l.getD (f + 1 + i) 0 := fun i => by
    rw [List.take_length, List.getD_eq_getElem?_getD, List.getElem?_drop, List.getD_eq_getElem?_getD]
  repeat (first | (refine w_q (h := ?_)) | (refine w_s (h := ?_)) | (refine w_t (h := ?_)) | (refine w_k (h := ?_)) | (refine y_q (h := ?_)) | (refine y_s (h := ?_)) | (refine y_t (h := ?_)) | (refine y_k (h := ?_)) | (refine lex_nil (by kernel_rfl) ?_) | (refine awp_sq ?_) | (refine awp_rg ?_) | (refine awp_rd (by kernel_rfl) (by kernel_rfl) ?_) | (refine awp_block ?_) | (refine awp_exit ?_) | (refine awp_ret ?_) | (refine awp_skip ?_))
  try simp only [T.cut]
  generalize (l.take l.length).drop (f + 1) = Q at *
  refine awp_loop (X := Nat) (fun j => j ≤ Q.length) (fun j => [(1, .t (.f .f32 s)), (2, .t (.f .f32 c)), (9, .t (.f .f32 (chS l s c f j).1)), (10, .t (.f .f32 (chS l s c f j).2)), (35, .old (.fl Q)), (36, .t (.v (.int .i64 Q.length))), (37, .t (.v (.int .i64 (j : Nat))))]) (fun _ => []) (fun j => Q.length - j)
    0 ⟨by omega, fun i => i, ⟨rfl, rfl, fE13 (by rw [h0]), fE13 (by rw [h0]), rfl, rfl, rfl, trivial⟩, trivial, injOn_id _⟩ (fun j hj => ?_)
  repeat (first | (refine w_q (h := ?_)) | (refine w_s (h := ?_)) | (refine w_t (h := ?_)) | (refine w_k (h := ?_)) | (refine y_q (h := ?_)) | (refine y_s (h := ?_)) | (refine y_t (h := ?_)) | (refine y_k (h := ?_)) | (refine lex_nil (by kernel_rfl) ?_) | (refine awp_sq ?_) | (refine awp_rg ?_) | (refine awp_rd (by kernel_rfl) (by kernel_rfl) ?_) | (refine awp_block ?_) | (refine awp_exit ?_) | (refine awp_ret ?_) | (refine awp_skip ?_))
  refine awp_if rfl (fun g1 => ?_) (fun g1 => ?_)
  · simp only [icmp, decide_eq_true_eq] at g1
    have hjl : j < Q.length := by omega
    have hx := hQg j
    repeat (first | (refine w_q (h := ?_)) | (refine w_s (h := ?_)) | (refine w_t (h := ?_)) | (refine w_k (h := ?_)) | (refine y_q (h := ?_)) | (refine y_s (h := ?_)) | (refine y_t (h := ?_)) | (refine y_k (h := ?_)) | (refine lex_nil (by kernel_rfl) ?_) | (refine awp_sq ?_) | (refine awp_rg ?_) | (refine awp_rd (by kernel_rfl) (by kernel_rfl) ?_) | (refine awp_block ?_) | (refine awp_exit ?_) | (refine awp_ret ?_) | (refine awp_skip ?_))
    rw [hx]
    refine awp_if rfl (fun g2 => ?_) (fun g2 => ?_)
    · have e := chS_t (s := s) (c := c) g2
      repeat (first | (refine w_q (h := ?_)) | (refine w_s (h := ?_)) | (refine w_t (h := ?_)) | (refine w_k (h := ?_)) | (refine y_q (h := ?_)) | (refine y_s (h := ?_)) | (refine y_t (h := ?_)) | (refine y_k (h := ?_)) | (refine lex_nil (by kernel_rfl) ?_) | (refine awp_sq ?_) | (refine awp_rg ?_) | (refine awp_rd (by kernel_rfl) (by kernel_rfl) ?_) | (refine awp_block ?_) | (refine awp_exit ?_) | (refine awp_ret ?_) | (refine awp_skip ?_))
      exact ⟨j + 1, by omega, by omega, fun i => i, ⟨rfl, rfl, fE13 (by rw [e]), fE13 (by rw [e]), rfl, rfl, iE13 (by omega), trivial⟩, trivial, injOn_id _⟩
    · have e := chS_f (s := s) (c := c) g2
      repeat (first | (refine w_q (h := ?_)) | (refine w_s (h := ?_)) | (refine w_t (h := ?_)) | (refine w_k (h := ?_)) | (refine y_q (h := ?_)) | (refine y_s (h := ?_)) | (refine y_t (h := ?_)) | (refine y_k (h := ?_)) | (refine lex_nil (by kernel_rfl) ?_) | (refine awp_sq ?_) | (refine awp_rg ?_) | (refine awp_rd (by kernel_rfl) (by kernel_rfl) ?_) | (refine awp_block ?_) | (refine awp_exit ?_) | (refine awp_ret ?_) | (refine awp_skip ?_))
      exact ⟨j + 1, by omega, by omega, fun i => i, ⟨rfl, rfl, fE13 (by rw [e]), fE13 (by rw [e]), rfl, rfl, iE13 (by omega), trivial⟩, trivial, injOn_id _⟩
  simp only [icmp, decide_eq_false_iff_not] at g1
  obtain rfl : j = l.length - (f + 1) := by omega
  repeat (first | (refine w_q (h := ?_)) | (refine w_s (h := ?_)) | (refine w_t (h := ?_)) | (refine w_k (h := ?_)) | (refine y_q (h := ?_)) | (refine y_s (h := ?_)) | (refine y_t (h := ?_)) | (refine y_k (h := ?_)) | (refine lex_nil (by kernel_rfl) ?_) | (refine awp_sq ?_) | (refine awp_rg ?_) | (refine awp_rd (by kernel_rfl) (by kernel_rfl) ?_) | (refine awp_block ?_) | (refine awp_exit ?_) | (refine awp_ret ?_) | (refine awp_skip ?_))
  have tf := ifFinite_c (fop .mul .f32 (chS l s c f (l.length - (f + 1))).1 (chS l s c f (l.length - (f + 1))).2)
  rw [show numF (fop .mul .f32 (chS l s c f (l.length - (f + 1))).1 (chS l s c f (l.length - (f + 1))).2) = (fop .mul .f32 (chS l s c f (l.length - (f + 1))).1 (chS l s c f (l.length - (f + 1))).2, true) by unfold numF; rw [if_pos hq]] at tf
  (first | (refine c_q (tf) (h := ?_)) | (refine z_q (tf) (h := ?_)))
  repeat (first | (refine w_q (h := ?_)) | (refine w_s (h := ?_)) | (refine w_t (h := ?_)) | (refine w_k (h := ?_)) | (refine y_q (h := ?_)) | (refine y_s (h := ?_)) | (refine y_t (h := ?_)) | (refine y_k (h := ?_)) | (refine lex_nil (by kernel_rfl) ?_) | (refine awp_sq ?_) | (refine awp_rg ?_) | (refine awp_rd (by kernel_rfl) (by kernel_rfl) ?_) | (refine awp_block ?_) | (refine awp_exit ?_) | (refine awp_ret ?_) | (refine awp_skip ?_))
  (refine ret_ok tyOk (by first | exact .inr rfl | exact .inl rfl) pi0 rfl (by first | exact .cons (by first | exact .tmp | exact .cell rfl rfl rfl rfl rfl rfl | exact .cell1 rfl rfl rfl rfl rfl) .nil | exact .cons (by first | exact .tmp | exact .cell rfl rfl rfl rfl rfl rfl | exact .cell1 rfl rfl rfl rfl rfl) (.cons (by first | exact .tmp | exact .cell rfl rfl rfl rfl rfl rfl | exact .cell1 rfl rfl rfl rfl rfl) .nil) | exact .cons (by first | exact .tmp | exact .cell rfl rfl rfl rfl rfl rfl | exact .cell1 rfl rfl rfl rfl rfl) (.cons (by first | exact .tmp | exact .cell rfl rfl rfl rfl rfl rfl | exact .cell1 rfl rfl rfl rfl rfl) (.cons (by first | exact .tmp | exact .cell rfl rfl rfl rfl rfl rfl | exact .cell1 rfl rfl rfl rfl rfl) .nil)) | exact .cons (by first | exact .tmp | exact .cell rfl rfl rfl rfl rfl rfl | exact .cell1 rfl rfl rfl rfl rfl) (.cons (by first | exact .tmp | exact .cell rfl rfl rfl rfl rfl rfl | exact .cell1 rfl rfl rfl rfl rfl) (.cons (by first | exact .tmp | exact .cell rfl rfl rfl rfl rfl rfl | exact .cell1 rfl rfl rfl rfl rfl) (.cons (by first | exact .tmp | exact .cell rfl rfl rfl rfl rfl rfl | exact .cell1 rfl rfl rfl rfl rfl) .nil)))) ?_ trivial (injO_0 _); (repeat' (first | exact RetRelL.nil | (refine RetRel.nil rfl ?_) | refine RetRelL.cons ?_ ?_ | refine rr_tup ?_ | refine rr_agg ?_ | refine rr_own rfl ?_ | exact RetRel.arg | exact RetRel.argc | refine rr_t ?_)); all_goals rfl)
/-! ### seasons that are factors -/
def tsL (l : List Nat) (p : Nat) : Nat := meanF ((l.take p).drop 0)
def tsF0 (l : List Nat) (p : Nat) : List Nat := ((l.take p).drop 0).map fun x => fop .quo .f32 x (tsL l p)
def tsS (l : List Nat) (p s : Nat) : Nat → Nat × List Nat
  | 0 => (tsL l p, tsF0 l p)
  | j + 1 => (fop .add .f32 (tsS l p s j).1 (fop .mul .f32 s (fop .sub .f32 (fop .quo .f32 (l.getD (p + j) 0) ((tsS l p s j).2.getD ((p + j) % p) 0)) (tsS l p s j).1)),
      (tsS l p s j).2.set ((p + j) % p) (fop .add .f32 ((tsS l p s j).2.getD ((p + j) % p) 0) (fop .mul .f32 s (fop .sub .f32 (fop .quo .f32 (l.getD (p + j) 0) (fop .add .f32 (tsS l p s j).1 (fop .mul .f32 s (fop .sub .f32 (fop .quo .f32 (l.getD (p + j) 0) ((tsS l p s j).2.getD ((p + j) % p) 0)) (tsS l p s j).1)))) ((tsS l p s j).2.getD ((p + j) % p) 0)))))
theorem tsS_0 (l : List Nat) (p s : Nat) : tsS l p s 0 = (tsL l p, tsF0 l p) := rfl
theorem tsS_S (l : List Nat) (p s j : Nat) : tsS l p s (j + 1) = (fop .add .f32 (tsS l p s j).1 (fop .mul .f32 s (fop .sub .f32 (fop .quo .f32 (l.getD (p + j) 0) ((tsS l p s j).2.getD ((p + j) % p) 0)) (tsS l p s j).1)),
      (tsS l p s j).2.set ((p + j) % p) (fop .add .f32 ((tsS l p s j).2.getD ((p + j) % p) 0) (fop .mul .f32 s (fop .sub .f32 (fop .quo .f32 (l.getD (p + j) 0) (fop .add .f32 (tsS l p s j).1 (fop .mul .f32 s (fop .sub .f32 (fop .quo .f32 (l.getD (p + j) 0) ((tsS l p s j).2.getD ((p + j) % p) 0)) (tsS l p s j).1)))) ((tsS l p s j).2.getD ((p + j) % p) 0))))) := rfl
theorem tsF0_len {l : List Nat} {p : Nat} (h : p ≤ l.length) : (tsF0 l p).length = p := by simp [tsF0]; omega
theorem tsS_len {l : List Nat} {p s : Nat} (h : p ≤ l.length) : ∀ j, (tsS l p s j).2.length = p
  | 0 => tsF0_len h
  | j + 1 => by rw [tsS_S, List.length_set]; exact tsS_len h j
theorem tsF0_get {l : List Nat} {p i : Nat} (h : i < p) (hp : p ≤ l.length) : (tsF0 l p).getD i 0 = fop .quo .f32 (((l.take p).drop 0).getD i 0) (tsL l p) := by
  unfold tsF0
  have hi : i < ((l.take p).drop 0).length := by simp; omega
  rw [List.getD_eq_getElem?_getD, List.getD_eq_getElem?_getD, List.getElem?_map, List.getElem?_eq_getElem hi]; rfl
attribute [local irreducible] tsS tsF0 tsL
theorem times_c {l : List Nat} {p s : Nat} (h1 : perOk l (p : Int) = true) (h2 : l.all above = true) (h3 : isShr s = true) (h4 : (tsS l p s (l.length - p)).2.all fin = true) (h5 : fin (tsS l p s (l.length - p)).1 = true) :
    TCall Try.prog 62 [.fl l, .v (.int .i64 (p : Nat)), .f .f32 s] (.tup [.own 0 p, .t (.f .f32 (tsS l p s (l.length - p)).1), .t (.v (.bool true))]) [(0, .sl 30 (.fl (tsS l p s (l.length - p)).2))] := by
  have hpo := h1
  unfold perOk at hpo
  simp only [Bool.and_eq_true, decide_eq_true_eq] at hpo
  obtain ⟨⟨hser, hr⟩, hpl⟩ := hpo
  have hl := isSer_len hser
  have hr := inR_t.1 hr
  have hp1 : 1 ≤ p := by omega
  have hpl : p ≤ l.length := by omega
  have hll := fun j => tsS_len (s := s) hpl j
  have h0 := tsS_0 l p s
  have hf0 := tsF0_len hpl
  have hfg := fun i hi => tsF0_get (l := l) (p := p) (i := i) hi hpl
  have hQ : meanF ((l.take p).drop 0) = tsL l p := by unfold tsL; rfl
  have hQl : ((l.take p).drop 0).length = p := by simp; omega
  refine tcall_of Try.func62 rfl (by kernel_rfl) (Nat.le_of_ble_eq_true rfl) rfl ?_
  simp only [argsL, argAV, argCs, argS]
  repeat (first | (refine w_q (h := ?_)) | (refine w_s (h := ?_)) | (refine w_t (h := ?_)) | (refine w_k (h := ?_)) | (refine y_q (h := ?_)) | (refine y_s (h := ?_)) | (refine y_t (h := ?_)) | (refine y_k (h := ?_)) | (refine lex_nil (by kernel_rfl) ?_) | (refine awp_sq ?_) | (refine awp_rg ?_) | (refine awp_rd (by kernel_rfl) (by kernel_rfl) ?_) | (refine awp_block ?_) | (refine awp_exit ?_) | (refine awp_ret ?_) | (refine awp_skip ?_))
  (first | (refine c_q (isPeriod_c l (p : Nat) (by omega)) (h := ?_)) | (refine z_q (isPeriod_c l (p : Nat) (by omega)) (h := ?_)))
  rw [h1]
  repeat (first | (refine w_q (h := ?_)) | (refine w_s (h := ?_)) | (refine w_t (h := ?_)) | (refine w_k (h := ?_)) | (refine y_q (h := ?_)) | (refine y_s (h := ?_)) | (refine y_t (h := ?_)) | (refine y_k (h := ?_)) | (refine lex_nil (by kernel_rfl) ?_) | (refine awp_sq ?_) | (refine awp_rg ?_) | (refine awp_rd (by kernel_rfl) (by kernel_rfl) ?_) | (refine awp_block ?_) | (refine awp_exit ?_) | (refine awp_ret ?_) | (refine awp_skip ?_))
  (first | (refine c_q (areMore_c l (by omega)) (h := ?_)) | (refine z_q (areMore_c l (by omega)) (h := ?_)))
  rw [h2]
  repeat (first | (refine w_q (h := ?_)) | (refine w_s (h := ?_)) | (refine w_t (h := ?_)) | (refine w_k (h := ?_)) | (refine y_q (h := ?_)) | (refine y_s (h := ?_)) | (refine y_t (h := ?_)) | (refine y_k (h := ?_)) | (refine lex_nil (by kernel_rfl) ?_) | (refine awp_sq ?_) | (refine awp_rg ?_) | (refine awp_rd (by kernel_rfl) (by kernel_rfl) ?_) | (refine awp_block ?_) | (refine awp_exit ?_) | (refine awp_ret ?_) | (refine awp_skip ?_))
  (first | (refine c_q (isShare_c _) (h := ?_)) | (refine z_q (isShare_c _) (h := ?_)))
  rw [h3]
  repeat (first | (refine w_q (h := ?_)) | (refine w_s (h := ?_)) | (refine w_t (h := ?_)) | (refine w_k (h := ?_)) | (refine y_q (h := ?_)) | (refine y_s (h := ?_)) | (refine y_t (h := ?_)) | (refine y_k (h := ?_)) | (refine lex_nil (by kernel_rfl) ?_) | (refine awp_sq ?_) | (refine awp_rg ?_) | (refine awp_rd (by kernel_rfl) (by kernel_rfl) ?_) | (refine awp_block ?_) | (refine awp_exit ?_) | (refine awp_ret ?_) | (refine awp_skip ?_))
  refine awp_ifF rfl rfl ?_
  repeat (first | (refine w_q (h := ?_)) | (refine w_s (h := ?_)) | (refine w_t (h := ?_)) | (refine w_k (h := ?_)) | (refine y_q (h := ?_)) | (refine y_s (h := ?_)) | (refine y_t (h := ?_)) | (refine y_k (h := ?_)) | (refine lex_nil (by kernel_rfl) ?_) | (refine awp_sq ?_) | (refine awp_rg ?_) | (refine awp_rd (by kernel_rfl) (by kernel_rfl) ?_) | (refine awp_block ?_) | (refine awp_exit ?_) | (refine awp_ret ?_) | (refine awp_skip ?_))
  (first | (refine w_r (q_slice_tree 0 p tyOk rfl rfl rfl rfl rfl rfl rfl (by exact rfl) (by exact ⟨_, _, rfl, rfl⟩) (by omega) (by simp only [T.len]; omega)) (h := ?_)) | (refine y_r (q_slice_tree 0 p tyOk rfl rfl rfl rfl rfl rfl rfl (by exact rfl) (by exact ⟨_, _, rfl, rfl⟩) (by omega) (by simp only [T.len]; omega)) (h := ?_)))
  repeat (first | (refine w_q (h := ?_)) | (refine w_s (h := ?_)) | (refine w_t (h := ?_)) | (refine w_k (h := ?_)) | (refine y_q (h := ?_)) | (refine y_s (h := ?_)) | (refine y_t (h := ?_)) | (refine y_k (h := ?_)) | (refine lex_nil (by kernel_rfl) ?_) | (refine awp_sq ?_) | (refine awp_rg ?_) | (refine awp_rd (by kernel_rfl) (by kernel_rfl) ?_) | (refine awp_block ?_) | (refine awp_exit ?_) | (refine awp_ret ?_) | (refine awp_skip ?_))
  try simp only [T.cut]
  generalize hQe : (l.take p).drop 0 = Q at *
  repeat (first | (refine w_q (h := ?_)) | (refine w_s (h := ?_)) | (refine w_t (h := ?_)) | (refine w_k (h := ?_)) | (refine y_q (h := ?_)) | (refine y_s (h := ?_)) | (refine y_t (h := ?_)) | (refine y_k (h := ?_)) | (refine lex_nil (by kernel_rfl) ?_) | (refine awp_sq ?_) | (refine awp_rg ?_) | (refine awp_rd (by kernel_rfl) (by kernel_rfl) ?_) | (refine awp_block ?_) | (refine awp_exit ?_) | (refine awp_ret ?_) | (refine awp_skip ?_))
  (first | (refine c_q (mean_c Q (by omega)) (h := ?_)) | (refine z_q (mean_c Q (by omega)) (h := ?_)))
  rw [hQ]
  repeat (first | (refine w_q (h := ?_)) | (refine w_s (h := ?_)) | (refine w_t (h := ?_)) | (refine w_k (h := ?_)) | (refine y_q (h := ?_)) | (refine y_s (h := ?_)) | (refine y_t (h := ?_)) | (refine y_k (h := ?_)) | (refine lex_nil (by kernel_rfl) ?_) | (refine awp_sq ?_) | (refine awp_rg ?_) | (refine awp_rd (by kernel_rfl) (by kernel_rfl) ?_) | (refine awp_block ?_) | (refine awp_exit ?_) | (refine awp_ret ?_) | (refine awp_skip ?_))
  (first | (refine w_r (q_slice_tree 0 p tyOk rfl rfl rfl rfl rfl rfl rfl (by exact rfl) (by exact ⟨_, _, rfl, rfl⟩) (by omega) (by simp only [T.len]; omega)) (h := ?_)) | (refine y_r (q_slice_tree 0 p tyOk rfl rfl rfl rfl rfl rfl rfl (by exact rfl) (by exact ⟨_, _, rfl, rfl⟩) (by omega) (by simp only [T.len]; omega)) (h := ?_)))
  try simp only [T.cut]
  rw [hQe]
  repeat (first | (refine w_q (h := ?_)) | (refine w_s (h := ?_)) | (refine w_t (h := ?_)) | (refine w_k (h := ?_)) | (refine y_q (h := ?_)) | (refine y_s (h := ?_)) | (refine y_t (h := ?_)) | (refine y_k (h := ?_)) | (refine lex_nil (by kernel_rfl) ?_) | (refine awp_sq ?_) | (refine awp_rg ?_) | (refine awp_rd (by kernel_rfl) (by kernel_rfl) ?_) | (refine awp_block ?_) | (refine awp_exit ?_) | (refine awp_ret ?_) | (refine awp_skip ?_))
  refine awp_loop (X := Nat) (fun j => j ≤ p) (fun j => [(0, .arg 0 (.fl l)), (1, .t (.v (.int .i64 (p : Nat)))), (2, .t (.f .f32 s)), (9, .t (.f .f32 (tsL l p))), (10, .own 34 0 j), (37, .old (.fl Q)), (38, .t (.v (.int .i64 (p : Nat)))), (39, .t (.v (.int .i64 (j : Nat))))]) (fun j => [(34, .sl 30 (.fl ((tsF0 l p).take j)))]) (fun j => p - j)
    0 ⟨Nat.zero_le _, fun i => i, ⟨rfl, rfl, rfl, rfl, rfl, rfl, iE13 (by rw [← hQl]), rfl, trivial⟩, ⟨sl_eq (congrArg T.fl (by rw [List.take_zero])), trivial⟩, injOn_id _⟩ (fun j hj => ?_)
  have hz : ((tsF0 l p).take j).length = j := by rw [List.length_take, hf0]; omega
  repeat (first | (refine w_q (h := ?_)) | (refine w_s (h := ?_)) | (refine w_t (h := ?_)) | (refine w_k (h := ?_)) | (refine y_q (h := ?_)) | (refine y_s (h := ?_)) | (refine y_t (h := ?_)) | (refine y_k (h := ?_)) | (refine lex_nil (by kernel_rfl) ?_) | (refine awp_sq ?_) | (refine awp_rg ?_) | (refine awp_rd (by kernel_rfl) (by kernel_rfl) ?_) | (refine awp_block ?_) | (refine awp_exit ?_) | (refine awp_ret ?_) | (refine awp_skip ?_))
  refine awp_if rfl (fun g1 => ?_) (fun g1 => ?_)
  · simp only [icmp, decide_eq_true_eq] at g1
    have hjp : j < p := by omega
    have hg := hfg j hjp
    repeat (first | (refine w_q (h := ?_)) | (refine w_s (h := ?_)) | (refine w_t (h := ?_)) | (refine w_k (h := ?_)) | (refine y_q (h := ?_)) | (refine y_s (h := ?_)) | (refine y_t (h := ?_)) | (refine y_k (h := ?_)) | (refine lex_nil (by kernel_rfl) ?_) | (refine awp_sq ?_) | (refine awp_rg ?_) | (refine awp_rd (by kernel_rfl) (by kernel_rfl) ?_) | (refine awp_block ?_) | (refine awp_exit ?_) | (refine awp_ret ?_) | (refine awp_skip ?_))
    rw [← hg]
    repeat (first | (refine w_q (h := ?_)) | (refine w_s (h := ?_)) | (refine w_t (h := ?_)) | (refine w_k (h := ?_)) | (refine y_q (h := ?_)) | (refine y_s (h := ?_)) | (refine y_t (h := ?_)) | (refine y_k (h := ?_)) | (refine lex_nil (by kernel_rfl) ?_) | (refine awp_sq ?_) | (refine awp_rg ?_) | (refine awp_rd (by kernel_rfl) (by kernel_rfl) ?_) | (refine awp_block ?_) | (refine awp_exit ?_) | (refine awp_ret ?_) | (refine awp_skip ?_))
    (first | (refine a_s (hn := by exact hz) (h := ?_)) | (refine b_s (hn := by exact hz) (h := ?_)))
    repeat (first | (refine w_q (h := ?_)) | (refine w_s (h := ?_)) | (refine w_t (h := ?_)) | (refine w_k (h := ?_)) | (refine y_q (h := ?_)) | (refine y_s (h := ?_)) | (refine y_t (h := ?_)) | (refine y_k (h := ?_)) | (refine lex_nil (by kernel_rfl) ?_) | (refine awp_sq ?_) | (refine awp_rg ?_) | (refine awp_rd (by kernel_rfl) (by kernel_rfl) ?_) | (refine awp_block ?_) | (refine awp_exit ?_) | (refine awp_ret ?_) | (refine awp_skip ?_))
    exact ⟨j + 1, by omega, by omega, fun i => i, ⟨rfl, rfl, rfl, rfl, own_eq (by simp only [T.app, T.len, List.length_append, hz]; rfl), rfl, rfl, iE13 (by omega), trivial⟩, ⟨sl_eq (congrArg T.fl (take_snoc (by omega) rfl)), trivial⟩, injOn_id _⟩
  simp only [icmp, decide_eq_false_iff_not] at g1
  obtain rfl : j = p := by omega
  rw [show (tsF0 l j).take j = tsF0 l j from List.take_of_length_le (by omega)]
  repeat (first | (refine w_q (h := ?_)) | (refine w_s (h := ?_)) | (refine w_t (h := ?_)) | (refine w_k (h := ?_)) | (refine y_q (h := ?_)) | (refine y_s (h := ?_)) | (refine y_t (h := ?_)) | (refine y_k (h := ?_)) | (refine lex_nil (by kernel_rfl) ?_) | (refine awp_sq ?_) | (refine awp_rg ?_) | (refine awp_rd (by kernel_rfl) (by kernel_rfl) ?_) | (refine awp_block ?_) | (refine awp_exit ?_) | (refine awp_ret ?_) | (refine awp_skip ?_))
  refine awp_loop (X := Nat) (fun i => j + i ≤ l.length) (fun i => [(0, .arg 0 (.fl l)), (1, .t (.v (.int .i64 (j : Nat)))), (2, .t (.f .f32 s)), (9, .t (.f .f32 (tsS l j s i).1)), (10, .own 34 0 j), (13, .t (.v (.int .i64 ((j + i : Nat) : Int))))]) (fun i => [(34, .sl 30 (.fl (tsS l j s i).2))]) (fun i => l.length - i)
    0 ⟨by omega, fun i => i, ⟨rfl, rfl, rfl, fE13 (by rw [h0]), rfl, rfl, trivial⟩, ⟨sl_eq (congrArg T.fl (by rw [h0])), trivial⟩, injOn_id _⟩ (fun i hi => ?_)
  have hzi := hll i
  repeat (first | (refine w_q (h := ?_)) | (refine w_s (h := ?_)) | (refine w_t (h := ?_)) | (refine w_k (h := ?_)) | (refine y_q (h := ?_)) | (refine y_s (h := ?_)) | (refine y_t (h := ?_)) | (refine y_k (h := ?_)) | (refine lex_nil (by kernel_rfl) ?_) | (refine awp_sq ?_) | (refine awp_rg ?_) | (refine awp_rd (by kernel_rfl) (by kernel_rfl) ?_) | (refine awp_block ?_) | (refine awp_exit ?_) | (refine awp_ret ?_) | (refine awp_skip ?_))
  refine awp_if rfl (fun g2 => ?_) (fun g2 => ?_)
  · simp only [icmp, decide_eq_true_eq] at g2
    have hil : j + i < l.length := by omega
    have hmod : (((j + i : Nat) : Int) % ((j : Nat) : Int)) = (((j + i) % j : Nat) : Int) := by rw [Int.natCast_emod]
    have hml := Nat.mod_lt (j + i) (show 0 < j by omega)
    have hS := tsS_S l j s i
    generalize hm : (j + i) % j = q at *
    repeat (first | (refine w_q (h := ?_)) | (refine w_s (h := ?_)) | (refine w_t (h := ?_)) | (refine w_k (h := ?_)) | (refine y_q (h := ?_)) | (refine y_s (h := ?_)) | (refine y_t (h := ?_)) | (refine y_k (h := ?_)) | (refine lex_nil (by kernel_rfl) ?_) | (refine awp_sq ?_) | (refine awp_rg ?_) | (refine awp_rd (by kernel_rfl) (by kernel_rfl) ?_) | (refine awp_block ?_) | (refine awp_exit ?_) | (refine awp_ret ?_) | (refine awp_skip ?_))
    try (first | (refine w_r (q_idx_tree (j + i) tyOk rfl rfl rfl rfl rfl rfl rfl rfl (by omega) (by first | omega | (simp only [T.len]; omega) | assumption)) (h := ?_)) | (refine y_r (q_idx_tree (j + i) tyOk rfl rfl rfl rfl rfl rfl rfl rfl (by omega) (by first | omega | (simp only [T.len]; omega) | assumption)) (h := ?_)))
    repeat (first | (refine w_q (h := ?_)) | (refine w_s (h := ?_)) | (refine w_t (h := ?_)) | (refine w_k (h := ?_)) | (refine y_q (h := ?_)) | (refine y_s (h := ?_)) | (refine y_t (h := ?_)) | (refine y_k (h := ?_)) | (refine lex_nil (by kernel_rfl) ?_) | (refine awp_sq ?_) | (refine awp_rg ?_) | (refine awp_rd (by kernel_rfl) (by kernel_rfl) ?_) | (refine awp_block ?_) | (refine awp_exit ?_) | (refine awp_ret ?_) | (refine awp_skip ?_))
    (first | (refine w_r (q_rem rfl rfl rfl (by omega) (by omega)) (h := ?_)) | (refine y_r (q_rem rfl rfl rfl (by omega) (by omega)) (h := ?_)))
    rw [hmod]
    repeat (first | (refine w_q (h := ?_)) | (refine w_s (h := ?_)) | (refine w_t (h := ?_)) | (refine w_k (h := ?_)) | (refine y_q (h := ?_)) | (refine y_s (h := ?_)) | (refine y_t (h := ?_)) | (refine y_k (h := ?_)) | (refine lex_nil (by kernel_rfl) ?_) | (refine awp_sq ?_) | (refine awp_rg ?_) | (refine awp_rd (by kernel_rfl) (by kernel_rfl) ?_) | (refine awp_block ?_) | (refine awp_exit ?_) | (refine awp_ret ?_) | (refine awp_skip ?_) | (first | (refine w_r (q_idx_own (q) tyOk rfl rfl rfl rfl rfl rfl rfl (by omega) (by first | omega | (simp only [T.len]; omega) | assumption)) (h := ?_)) | (refine y_r (q_idx_own (q) tyOk rfl rfl rfl rfl rfl rfl rfl (by omega) (by first | omega | (simp only [T.len]; omega) | assumption)) (h := ?_))))
    exact ⟨i + 1, by omega, by omega, fun i => i, ⟨rfl, rfl, rfl, fE13 (by rw [hS, Nat.zero_add]), rfl, iE13 (by omega), trivial⟩, ⟨sl_eq (congrArg T.fl (by rw [hS, Nat.zero_add])), trivial⟩, injOn_id _⟩
  simp only [icmp, decide_eq_false_iff_not] at g2
  obtain rfl : i = l.length - j := by omega
  repeat (first | (refine w_q (h := ?_)) | (refine w_s (h := ?_)) | (refine w_t (h := ?_)) | (refine w_k (h := ?_)) | (refine y_q (h := ?_)) | (refine y_s (h := ?_)) | (refine y_t (h := ?_)) | (refine y_k (h := ?_)) | (refine lex_nil (by kernel_rfl) ?_) | (refine awp_sq ?_) | (refine awp_rg ?_) | (refine awp_rd (by kernel_rfl) (by kernel_rfl) ?_) | (refine awp_block ?_) | (refine awp_exit ?_) | (refine awp_ret ?_) | (refine awp_skip ?_))
  (first | (refine c_q (areFinite_c (tsS l j s (l.length - j)).2 (by omega)) (h := ?_)) | (refine z_q (areFinite_c (tsS l j s (l.length - j)).2 (by omega)) (h := ?_)))
  rw [h4]
  repeat (first | (refine w_q (h := ?_)) | (refine w_s (h := ?_)) | (refine w_t (h := ?_)) | (refine w_k (h := ?_)) | (refine y_q (h := ?_)) | (refine y_s (h := ?_)) | (refine y_t (h := ?_)) | (refine y_k (h := ?_)) | (refine lex_nil (by kernel_rfl) ?_) | (refine awp_sq ?_) | (refine awp_rg ?_) | (refine awp_rd (by kernel_rfl) (by kernel_rfl) ?_) | (refine awp_block ?_) | (refine awp_exit ?_) | (refine awp_ret ?_) | (refine awp_skip ?_))
  (first | (refine c_q (isFinite_c _) (h := ?_)) | (refine z_q (isFinite_c _) (h := ?_)))
  rw [h5]
  repeat (first | (refine w_q (h := ?_)) | (refine w_s (h := ?_)) | (refine w_t (h := ?_)) | (refine w_k (h := ?_)) | (refine y_q (h := ?_)) | (refine y_s (h := ?_)) | (refine y_t (h := ?_)) | (refine y_k (h := ?_)) | (refine lex_nil (by kernel_rfl) ?_) | (refine awp_sq ?_) | (refine awp_rg ?_) | (refine awp_rd (by kernel_rfl) (by kernel_rfl) ?_) | (refine awp_block ?_) | (refine awp_exit ?_) | (refine awp_ret ?_) | (refine awp_skip ?_))
  refine awp_ifF rfl rfl ?_
  repeat (first | (refine w_q (h := ?_)) | (refine w_s (h := ?_)) | (refine w_t (h := ?_)) | (refine w_k (h := ?_)) | (refine y_q (h := ?_)) | (refine y_s (h := ?_)) | (refine y_t (h := ?_)) | (refine y_k (h := ?_)) | (refine lex_nil (by kernel_rfl) ?_) | (refine awp_sq ?_) | (refine awp_rg ?_) | (refine awp_rd (by kernel_rfl) (by kernel_rfl) ?_) | (refine awp_block ?_) | (refine awp_exit ?_) | (refine awp_ret ?_) | (refine awp_skip ?_))
  refine ret_ok tyOk (by first | exact .inr rfl | exact .inl rfl) (pi1 34) rfl (by first | exact .cons (by first | exact .tmp | exact .cell rfl rfl rfl rfl rfl rfl | exact .cell1 rfl rfl rfl rfl rfl) .nil | exact .cons (by first | exact .tmp | exact .cell rfl rfl rfl rfl rfl rfl | exact .cell1 rfl rfl rfl rfl rfl) (.cons (by first | exact .tmp | exact .cell rfl rfl rfl rfl rfl rfl | exact .cell1 rfl rfl rfl rfl rfl) .nil) | exact .cons (by first | exact .tmp | exact .cell rfl rfl rfl rfl rfl rfl | exact .cell1 rfl rfl rfl rfl rfl) (.cons (by first | exact .tmp | exact .cell rfl rfl rfl rfl rfl rfl | exact .cell1 rfl rfl rfl rfl rfl) (.cons (by first | exact .tmp | exact .cell rfl rfl rfl rfl rfl rfl | exact .cell1 rfl rfl rfl rfl rfl) .nil)) | exact .cons (by first | exact .tmp | exact .cell rfl rfl rfl rfl rfl rfl | exact .cell1 rfl rfl rfl rfl rfl) (.cons (by first | exact .tmp | exact .cell rfl rfl rfl rfl rfl rfl | exact .cell1 rfl rfl rfl rfl rfl) (.cons (by first | exact .tmp | exact .cell rfl rfl rfl rfl rfl rfl | exact .cell1 rfl rfl rfl rfl rfl) (.cons (by first | exact .tmp | exact .cell rfl rfl rfl rfl rfl rfl | exact .cell1 rfl rfl rfl rfl rfl) .nil)))) ?_ ⟨rfl, trivial⟩ (injO_1 _ _ _)
  repeat' (first | exact RetRelL.nil | (refine RetRel.nil rfl ?_) | refine RetRelL.cons ?_ ?_ | refine rr_tup ?_ | refine rr_agg ?_ | refine rr_own rfl ?_ | exact RetRel.arg | exact RetRel.argc | refine rr_t ?_)
  all_goals rfl
end Go.Proofs.Ytmnpdipiffmnhaa

