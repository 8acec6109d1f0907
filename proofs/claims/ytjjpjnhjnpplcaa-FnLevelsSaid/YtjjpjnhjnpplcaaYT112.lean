import Derived.Test.YtjjpjnhjnpplcaaYT1c
import Derived.Test.YtjjpjnhjnpplcaaYT111
import Derived.Test.YtjjpjnhjnpplcaaYT14
import Derived.Test.YtjjpjnhjnpplcaaZAwC
set_option linter.unusedVariables false
set_option linter.unusedSimpArgs false
set_option maxRecDepth 20000
set_option maxHeartbeats 16000000
namespace Go.Proofs.Ytjjpjnhjnpplcaa
open Go.Aw

theorem s5_tab : (List.range 9).all (fun n => decide (fop .add .f32 (h2w (n : Int)) 1056964608 < 2 * FloatKind.f32.format.signWeight) && decide (fop .add .f32 (h2w (n : Int)) 1056964608 % FloatKind.f32.format.signWeight < FloatKind.f32.format.infRung) && decide (49 / 100 ≤ rv .f32 (fop .add .f32 (h2w (n : Int)) 1056964608)) && decide (rv .f32 (fop .add .f32 (h2w (n : Int)) 1056964608) ≤ 5)) = true := by decide +kernel
theorem s5_rv {n : Nat} (h : n ≤ 8) : Fnt .f32 (fop .add .f32 (h2w (n : Int)) 1056964608) ∧ 49 / 100 ≤ rv .f32 (fop .add .f32 (h2w (n : Int)) 1056964608) ∧ rv .f32 (fop .add .f32 (h2w (n : Int)) 1056964608) ≤ 5 := by
  have := List.all_eq_true.1 s5_tab n (List.mem_range.2 (by omega))
  simp only [Bool.and_eq_true, decide_eq_true_eq] at this
  exact ⟨⟨this.1.1.1, this.1.1.2⟩, this.1.2, this.2⟩
theorem q4_Bd {x : Int} {m : Int} (h : -m ≤ x ∧ x ≤ m) (hm : m ≤ 32) : Fnt .f32 (q4 x) ∧ rv .f32 (q4 x) * 4 ≤ (m : Rat) ∧ -(m : Rat) ≤ rv .f32 (q4 x) * 4 := by
  obtain ⟨h1, h2⟩ := q4_rv (x := x) (by omega)
  refine ⟨h1, ?_, ?_⟩
  · rw [h2]; exact Rat.intCast_le_intCast.2 h.2
  · rw [h2]
    have : ((-m : Int) : Rat) ≤ (x : Rat) := Rat.intCast_le_intCast.2 h.1
    push_cast at this
    exact this
theorem lvI_of {l : List Nat} (h : Byt l) : LvI (q4 (dvD l 0 17 - 8)) (fop .add .f32 (h2w (dvD l 1 9)) 1056964608) (q4 (1 + dvD l 2 8)) (e8 (dvD l 3 5)) := by
  have a0 := dvD_rng h 0 (n := 17) (by omega)
  have a1 := dvD_rng h 1 (n := 9) (by omega)
  have a2 := dvD_rng h 2 (n := 8) (by omega)
  have a3 := dvD_rng h 3 (n := 5) (by omega)
  obtain ⟨x1, hx1⟩ : ∃ x : Nat, dvD l 1 9 = (x : Int) := ⟨_, (Int.toNat_of_nonneg a1.1).symm⟩
  obtain ⟨x2, hx2⟩ : ∃ x : Nat, dvD l 2 8 = (x : Int) := ⟨_, (Int.toNat_of_nonneg a2.1).symm⟩
  obtain ⟨x3, hx3⟩ : ∃ x : Nat, dvD l 3 5 = (x : Int) := ⟨_, (Int.toNat_of_nonneg a3.1).symm⟩
  rw [hx1] at a1 ⊢; rw [hx2] at a2 ⊢; rw [hx3] at a3 ⊢
  have b0 := q4_Bd (x := dvD l 0 17 - 8) (m := 8) (by omega) (by omega)
  have b2 := q4_rv (x := 1 + (x2 : Int)) (by omega)
  have b3 := e8_rv (n := x3) (by omega)
  have b1 := s5_rv (n := x1) (by omega)
  have hn3 := nat_cast_le (show x3 ≤ 4 by omega)
  have e2 : ((1 + (x2 : Int) : Int) : Rat) = 1 + (x2 : Rat) := by push_cast; rfl
  have hn2 := nat_cast_le (show x2 ≤ 7 by omega)
  rw [e2] at b2
  have e8c : ((8 : Int) : Rat) = 8 := rfl
  rw [e8c] at b0
  refine ⟨⟨b0.1, ?_, ?_⟩, b1, ⟨b2.1, ?_, ?_⟩, ⟨b3.1, ?_, ?_⟩⟩
  · have := b0.2.1; grind
  · have := b0.2.2; grind
  · have := b2.2; grind
  · have := b2.2; grind
  · have := b3.2; grind
  · have := b3.2; grind
theorem l3_Bd {l : List Nat} (h : Byt l) {n i : Nat} (hi : i < n) : Bd ((l3L l n).getD i 0) 4 := by
  rw [l3L_get hi]
  have a := dvD_rng h i (n := 33) (by omega)
  have b := q4_Bd (x := dvD l i 33 - 16) (m := 16) (by omega) (by omega)
  have e : ((16 : Int) : Rat) = 16 := rfl
  rw [e] at b
  exact ⟨b.1, by have := b.2.1; grind, by have := b.2.2; grind⟩
def snL (l : List Nat) (n : Nat) : List Bool := (List.range n).map fun i : Nat => decide (0 < b10F l (1 + (i : Int)) 3)
theorem snL_len (l : List Nat) (n : Nat) : (snL l n).length = n := by simp [snL]
theorem snL_get {l : List Nat} {n i : Nat} (h : i < n) : (snL l n).getD i false = decide (0 < b10F l (1 + (i : Int)) 3) := by simp [snL, List.getD_eq_getElem?_getD, h]
theorem take_snB {l : List Bool} {i : Nat} {x : Bool} (h : i < l.length) (hx : l.getD i false = x) : l.take i ++ [x] = l.take (i + 1) := by
  rw [List.take_succ_eq_append_getElem h]
  congr 2
  simp only [List.getD_eq_getElem?_getD, List.getElem?_eq_getElem h, Option.getD_some] at hx
  exact hx.symm
attribute [local irreducible] QRun LexD AWp TCall TMut fop fint fcmp fconv hw fmx fmn dvD b10F
theorem lawLevels_c (code more : List Nat) (hc : code.length ≤ 9223372036854775807) (hm : more.length ≤ 9223372036854775807) (bc : ∀ i, i < code.length → code.getD i 0 < 256) (bm : ∀ i, i < more.length → more.getD i 0 < 256) :
    TCall Try.prog 4 [BY code, BY more] (.t (.v (.bool true))) [] := by
  by_cases hLg : b10Lg code more = true
  · refine tcall_of Try.func4 rfl (by kernel_rfl) (Nat.le_of_ble_eq_true rfl) rfl ?_
    simp only [argsL, argAV, argCs, argS]
    repeat (first | (refine x_q (h := ?_)) | (refine xd_q (h := ?_)) | (refine w_q (h := ?_)) | (refine w_s (h := ?_)) | (refine w_t (h := ?_)) | (refine w_k (h := ?_)) | (refine y_q (h := ?_)) | (refine y_s (h := ?_)) | (refine y_t (h := ?_)) | (refine y_k (h := ?_)) | (refine lex_nil (by kernel_rfl) ?_) | (refine awp_sq ?_) | (refine awp_rg ?_) | (refine awp_rd (by kernel_rfl) (by kernel_rfl) ?_) | (refine awp_block ?_) | (refine awp_exit ?_) | (refine awp_ret ?_) | (refine awp_skip ?_))
    (first | (refine c_q (b10Long_c code more hc hm) (h := ?_)) | (refine z_q (b10Long_c code more hc hm) (h := ?_)))
    repeat (first | (refine x_q (h := ?_)) | (refine xd_q (h := ?_)) | (refine w_q (h := ?_)) | (refine w_s (h := ?_)) | (refine w_t (h := ?_)) | (refine w_k (h := ?_)) | (refine y_q (h := ?_)) | (refine y_s (h := ?_)) | (refine y_t (h := ?_)) | (refine y_k (h := ?_)) | (refine lex_nil (by kernel_rfl) ?_) | (refine awp_sq ?_) | (refine awp_rg ?_) | (refine awp_rd (by kernel_rfl) (by kernel_rfl) ?_) | (refine awp_block ?_) | (refine awp_exit ?_) | (refine awp_ret ?_) | (refine awp_skip ?_))
    refine awp_ifT rfl hLg ?_
    repeat (first | (refine x_q (h := ?_)) | (refine xd_q (h := ?_)) | (refine w_q (h := ?_)) | (refine w_s (h := ?_)) | (refine w_t (h := ?_)) | (refine w_k (h := ?_)) | (refine y_q (h := ?_)) | (refine y_s (h := ?_)) | (refine y_t (h := ?_)) | (refine y_k (h := ?_)) | (refine lex_nil (by kernel_rfl) ?_) | (refine awp_sq ?_) | (refine awp_rg ?_) | (refine awp_rd (by kernel_rfl) (by kernel_rfl) ?_) | (refine awp_block ?_) | (refine awp_exit ?_) | (refine awp_ret ?_) | (refine awp_skip ?_))
    (refine ret_ok tyOk (by first | exact .inr rfl | exact .inl rfl) pi0 rfl (by first | exact .cons (by first | exact .tmp | exact .cell rfl rfl rfl rfl rfl rfl | exact .cell1 rfl rfl rfl rfl rfl) .nil | exact .cons (by first | exact .tmp | exact .cell rfl rfl rfl rfl rfl rfl | exact .cell1 rfl rfl rfl rfl rfl) (.cons (by first | exact .tmp | exact .cell rfl rfl rfl rfl rfl rfl | exact .cell1 rfl rfl rfl rfl rfl) .nil) | exact .cons (by first | exact .tmp | exact .cell rfl rfl rfl rfl rfl rfl | exact .cell1 rfl rfl rfl rfl rfl) (.cons (by first | exact .tmp | exact .cell rfl rfl rfl rfl rfl rfl | exact .cell1 rfl rfl rfl rfl rfl) (.cons (by first | exact .tmp | exact .cell rfl rfl rfl rfl rfl rfl | exact .cell1 rfl rfl rfl rfl rfl) .nil)) | exact .cons (by first | exact .tmp | exact .cell rfl rfl rfl rfl rfl rfl | exact .cell1 rfl rfl rfl rfl rfl) (.cons (by first | exact .tmp | exact .cell rfl rfl rfl rfl rfl rfl | exact .cell1 rfl rfl rfl rfl rfl) (.cons (by first | exact .tmp | exact .cell rfl rfl rfl rfl rfl rfl | exact .cell1 rfl rfl rfl rfl rfl) (.cons (by first | exact .tmp | exact .cell rfl rfl rfl rfl rfl rfl | exact .cell1 rfl rfl rfl rfl rfl) .nil)))) ?_ trivial (injO_0 _); (repeat' (first | exact RetRelL.nil | (refine RetRel.nil rfl ?_) | refine RetRelL.cons ?_ ?_ | refine rr_tup ?_ | refine rr_agg ?_ | refine rr_own rfl ?_ | exact RetRel.arg | exact RetRel.argc | refine rr_t ?_)); all_goals rfl)
  have hLg' : code.length ≤ 1048576 ∧ more.length ≤ 1048576 := by
    unfold b10Lg at hLg
    simp only [Bool.or_eq_true, decide_eq_true_eq] at hLg
    omega
  have hBc : Byt code := ⟨by omega, bc⟩
  have hBm : Byt more := ⟨by omega, bm⟩
  obtain ⟨n0, e0, l0⟩ := b10N (l := more) (k := 0) (n := 12) (by omega)
  have t0 := b10At_c more 0 12 hm bm (by omega) (by omega)
  rw [e0] at t0
  obtain ⟨n, hn⟩ : ∃ n, n = n0 + 1 := ⟨_, rfl⟩
  have w0 : (1 : Int) + (n0 : Int) = (n : Int) := by omega
  have rn : 1 ≤ n ∧ n ≤ 12 := by omega
  have tL := b10Level_c hBc
  have hI := lvI_of hBc
  have tA := b10List_t hBm n (by omega)
  have tBb := b10List_t hBc n (by omega)
  have hA : ∀ i, i < n → Bd ((l3L more n).getD i 0) 4 := fun i hi => l3_Bd hBm hi
  have hBb : ∀ i, i < n → Bd ((l3L code n).getD i 0) 4 := fun i hi => l3_Bd hBc hi
  have hAl := l3L_len more n
  have hBl := l3L_len code n
  have hsl := snL_len more n
  have hsg : ∀ i, i < n → (snL more n).getD i false = decide (0 < b10F more (1 + (i : Int)) 3) := fun i hi => snL_get hi
  generalize l3L more n = a at *
  generalize l3L code n = b at *
  generalize snL more n = sn at *
  generalize q4 (dvD code 0 17 - 8) = m0 at *
  generalize fop .add .f32 (h2w (dvD code 1 9)) 1056964608 = sp0 at *
  generalize q4 (1 + dvD code 2 8) = no at *
  generalize e8 (dvD code 3 5) = dr at *
  have hA' : ∀ i, i < a.length → Bd (a.getD i 0) 4 := fun i hi => hA i (by omega)
  have hB' : ∀ i, i < b.length → Bd (b.getD i 0) 4 := fun i hi => hBb i (by omega)
  have tR := implRun_c m0 sp0 no dr a sn (by omega) (by omega)
  rw [lr_ok hI hA' (by omega) (by omega) (by omega)] at tR
  have tR2 := implRun_c m0 sp0 no dr b sn (by omega) (by omega)
  rw [lr_ok hI hB' (by omega) (by omega) (by omega), lrL2_eq (a := b) (b := a) (by omega)] at tR2
  have tK := implBack_c m0 sp0 no dr a sn (by omega) (by omega)
  rw [lb_ok hI hA' (by omega) (by omega) (by omega)] at tK
  have tS := specRun_c m0 sp0 no dr a sn (by omega) (by omega)
  rw [lr_ok hI hA' (by omega) (by omega) (by omega)] at tS
  have tV := implValidLevel_c m0 sp0 no dr
  rw [validL_of hI.fm.1 ⟨hI.fs.1, by have := hI.fs.2.1; grind⟩ ⟨hI.fno.1, hI.fno.2.1⟩ ⟨hI.fdr.1, hI.fdr.2.1⟩] at tV
  have tSL := implSameLevel_c m0 sp0 no dr m0 sp0 no dr
  rw [same4_self hI.fm.1 hI.fs.1 hI.fno.1 hI.fdr.1] at tSL
  have hC : ∀ i, i < n → LvC m0 sp0 no dr a sn i := fun i hi => lvC_of hI hA' (by omega) (by omega) (by omega)
  -- the first step by itself
  have hst := st_step (x := a.getD 0 0) ⟨hI.fm.mono (by grind), ⟨hI.fs.1, by have := hI.fs.2.1; grind, by have := hI.fs.2.2; grind⟩, hI.fno, hI.fdr, hA 0 (by omega)⟩ true
  have hok : stOk m0 sp0 no dr (a.getD 0 0) true = true := by
    unfold stOk
    rw [validL_of hI.fm.1 ⟨hI.fs.1, by have := hI.fs.2.1; grind⟩ ⟨hI.fno.1, hI.fno.2.1⟩ ⟨hI.fdr.1, hI.fdr.2.1⟩, show fin (a.getD 0 0) = true from (hA 0 (by omega)).fin, validL_of hst.fm ⟨hst.fp, hst.p0⟩ ⟨hI.fno.1, hI.fno.2.1⟩ ⟨hI.fdr.1, hI.fdr.2.1⟩,
      show fin (stC m0 sp0 no dr (a.getD 0 0) true) = true from hst.fc.fin]
    rfl
  have tI := implStep_c m0 sp0 no dr (a.getD 0 0) true
  rw [stepF_ok hok] at tI
  have tJ := specStep_c m0 sp0 no dr (a.getD 0 0) true
  rw [stepF_ok hok] at tJ
  have tSM := implSameLevel_c (stM m0 sp0 no dr (a.getD 0 0) true) (stP m0 sp0 no dr (a.getD 0 0) true) no dr (stM m0 sp0 no dr (a.getD 0 0) true) (stP m0 sp0 no dr (a.getD 0 0) true) no dr
  rw [same4_self hst.fm hst.fp hI.fno.1 hI.fdr.1] at tSM
  generalize stM m0 sp0 no dr (a.getD 0 0) true = nm at *
  generalize stP m0 sp0 no dr (a.getD 0 0) true = np at *
  generalize stC m0 sp0 no dr (a.getD 0 0) true = nc at *
  -- the lists
  have hKg : ∀ i, i < n → _ ∧ _ := fun i hi => lbR_1 (m0 := m0) (sp0 := sp0) (no := no) (dr := dr) (a := a) (seen := sn) (by omega) (i := i) (by omega)
  have hbl := bk_last (m0 := m0) (sp0 := sp0) (no := no) (dr := dr) (a := a) (seen := sn) (by omega)
  have hXn := (lvX (seen := sn) hI hA' (by omega) a.length (Nat.le_refl _)).fm
  have hnn := nat_cast_le (show a.length ≤ 12 by omega)
  have hG0 : gapD (W (lrM m0 sp0 no dr a sn a.length).1) (W (lrM m0 sp0 no dr a sn a.length).1) = 0 := gap_self64 (W_30 hXn.1 (by have := hXn.2; grind) (by have := hXn.2; grind)).1
  have tG := b10Gap_c (W (lrM m0 sp0 no dr a sn a.length).1) (W (lrM m0 sp0 no dr a sn a.length).1)
  rw [hG0] at tG
  have hL1 := lrL1_len m0 sp0 no dr a sn
  have hL2 := lrL2_len m0 sp0 no dr a sn
  have hL1b := lrL1_len m0 sp0 no dr b sn
  have hg1 : ∀ i, i < n → (lrL1 m0 sp0 no dr a sn).getD i 0 = (lrM m0 sp0 no dr a sn (i + 1)).1 := fun i hi => lrL1_get (by omega)
  have hg2 : ∀ i, i < n → (lrL2 m0 sp0 no dr a sn).getD i 0 = (lrM m0 sp0 no dr a sn (i + 1)).2 := fun i hi => lrL2_get (by omega)
  have hKl := lbR_len dr a.length (lrL1 m0 sp0 no dr a sn) (lrL2 m0 sp0 no dr a sn) (a.length - 1)
  obtain ⟨M, hM⟩ : ∃ M : Nat → Nat, M = fun i => (lrM m0 sp0 no dr a sn i).1 := ⟨_, rfl⟩
  obtain ⟨P, hP⟩ : ∃ P : Nat → Nat, P = fun i => (lrM m0 sp0 no dr a sn i).2 := ⟨_, rfl⟩
  have hM0 : M 0 = m0 := by rw [hM]; rfl
  have hP0 : P 0 = sp0 := by rw [hP]; rfl
  have hMe : ∀ i, (lrM m0 sp0 no dr a sn i).1 = M i := fun i => by rw [hM]
  have hPe : ∀ i, (lrM m0 sp0 no dr a sn i).2 = P i := fun i => by rw [hP]
  obtain ⟨Q, hQ⟩ : ∃ Q : Nat → Nat, Q = fun i => (bkV dr (lrL1 m0 sp0 no dr a sn) (lrL2 m0 sp0 no dr a sn) (a.length - 1 - i)).2 := ⟨_, rfl⟩
  have hC' : ∀ i, i < n → (sn.getD i false = false → fcmp .neq .f64 (W (M (i + 1))) (W (M i)) = false) ∧ fcmp .lss .f64 (W (M (i + 1))) (fop .sub .f64 (fmn .f64 (W (M i)) (W (a.getD i 0))) 4562254508917369340) = false ∧
      fcmp .gtr .f64 (W (M (i + 1))) (fop .add .f64 (fmx .f64 (W (M i)) (W (a.getD i 0))) 4562254508917369340) = false ∧ fcmp .gtr .f64 (W (P (i + 1))) (fop .add .f64 (fop .add .f64 (W (P i)) (W dr)) 4562254508917369340) = false ∧ fcmp .lss .f32 (P (i + 1)) 0 = false ∧
      fcmp .gtr .f64 (W (Q i)) (fop .add .f64 (W (P (i + 1))) 4562254508917369340) = false ∧ fcmp .lss .f64 (W (Q i)) 13785626545772145148 = false := fun i hi => by
    obtain ⟨c1, c2, c3, c4, c5, c6, c7⟩ := hC i hi
    rw [hMe, hMe] at c1 c2 c3
    rw [hPe, hPe] at c4
    rw [hPe] at c5 c6
    have hQi : (bkV dr (lrL1 m0 sp0 no dr a sn) (lrL2 m0 sp0 no dr a sn) (a.length - 1 - i)).2 = Q i := by rw [hQ]
    rw [hQi] at c6 c7
    exact ⟨c1, c2, c3, c4, c5, c6, c7⟩
  have hq2 : ∀ i, i < n → (lbR dr a.length (lrL1 m0 sp0 no dr a sn) (lrL2 m0 sp0 no dr a sn) (a.length - 1)).2.getD i 0 = Q i := fun i hi => by rw [(hKg i hi).2, hQ]
  have hq1 : (lbR dr a.length (lrL1 m0 sp0 no dr a sn) (lrL2 m0 sp0 no dr a sn) (a.length - 1)).1.getD (n - 1) 0 = M n := by
    rw [(hKg (n - 1) (by omega)).1, show a.length - 1 - (n - 1) = 0 by omega, hbl, hMe, hAl]
  rw [hMe, hAl] at tG
  have hg1' : ∀ i, i < n → (lrL1 m0 sp0 no dr a sn).getD i 0 = M (i + 1) := fun i hi => by rw [hg1 i hi, hMe]
  have hg2' : ∀ i, i < n → (lrL2 m0 sp0 no dr a sn).getD i 0 = P (i + 1) := fun i hi => by rw [hg2 i hi, hPe]
  rw [hL1] at hKl
  rw [hL2] at hKl
  clear hg1 hg2 hKg hbl hXn hG0 hC hMe hPe hM hP hQ hst hok hn
  generalize (lbR dr a.length (lrL1 m0 sp0 no dr a sn) (lrL2 m0 sp0 no dr a sn) (a.length - 1)).1 = K1 at *
  generalize (lbR dr a.length (lrL1 m0 sp0 no dr a sn) (lrL2 m0 sp0 no dr a sn) (a.length - 1)).2 = K2 at *
  generalize lrL1 m0 sp0 no dr a sn = L1 at *
  generalize lrL2 m0 sp0 no dr a sn = L2 at *
  generalize lrL1 m0 sp0 no dr b sn = R1 at *
  generalize lrS m0 sp0 no dr a sn a.length = ct at *
  generalize lrS m0 sp0 no dr b sn b.length = cu at *
  rw [hAl] at hL1 hL2 hKl
  dsimp only [lrR, lrH, lbRV, lbH, lvR] at tR tR2 tK tS tI tJ
  have tN := specSameN_self ct
  have tNm := specSameN_self nm
  have tNc := specSameN_self nc
  have tBL := b10List_self L2 (by omega)
  have hk := k001.2.2
  refine tcall_of Try.func4 rfl (by kernel_rfl) (Nat.le_of_ble_eq_true rfl) rfl ?_
  simp only [argsL, argAV, argCs, argS]
  repeat (first | (refine x_q (h := ?_)) | (refine xd_q (h := ?_)) | (refine w_q (h := ?_)) | (refine w_s (h := ?_)) | (refine w_t (h := ?_)) | (refine w_k (h := ?_)) | (refine y_q (h := ?_)) | (refine y_s (h := ?_)) | (refine y_t (h := ?_)) | (refine y_k (h := ?_)) | (refine lex_nil (by kernel_rfl) ?_) | (refine awp_sq ?_) | (refine awp_rg ?_) | (refine awp_rd (by kernel_rfl) (by kernel_rfl) ?_) | (refine awp_block ?_) | (refine awp_exit ?_) | (refine awp_ret ?_) | (refine awp_skip ?_))
  (first | (refine c_q (b10Long_c code more hc hm) (h := ?_)) | (refine z_q (b10Long_c code more hc hm) (h := ?_)))
  repeat (first | (refine x_q (h := ?_)) | (refine xd_q (h := ?_)) | (refine w_q (h := ?_)) | (refine w_s (h := ?_)) | (refine w_t (h := ?_)) | (refine w_k (h := ?_)) | (refine y_q (h := ?_)) | (refine y_s (h := ?_)) | (refine y_t (h := ?_)) | (refine y_k (h := ?_)) | (refine lex_nil (by kernel_rfl) ?_) | (refine awp_sq ?_) | (refine awp_rg ?_) | (refine awp_rd (by kernel_rfl) (by kernel_rfl) ?_) | (refine awp_block ?_) | (refine awp_exit ?_) | (refine awp_ret ?_) | (refine awp_skip ?_))
  refine awp_ifF rfl (by simpa using hLg) ?_
  repeat (first | (refine x_q (h := ?_)) | (refine xd_q (h := ?_)) | (refine w_q (h := ?_)) | (refine w_s (h := ?_)) | (refine w_t (h := ?_)) | (refine w_k (h := ?_)) | (refine y_q (h := ?_)) | (refine y_s (h := ?_)) | (refine y_t (h := ?_)) | (refine y_k (h := ?_)) | (refine lex_nil (by kernel_rfl) ?_) | (refine awp_sq ?_) | (refine awp_rg ?_) | (refine awp_rd (by kernel_rfl) (by kernel_rfl) ?_) | (refine awp_block ?_) | (refine awp_exit ?_) | (refine awp_ret ?_) | (refine awp_skip ?_))
  (first | (refine c_q (tL) (h := ?_)) | (refine z_q (tL) (h := ?_)))
  repeat (first | (refine x_q (h := ?_)) | (refine xd_q (h := ?_)) | (refine w_q (h := ?_)) | (refine w_s (h := ?_)) | (refine w_t (h := ?_)) | (refine w_k (h := ?_)) | (refine y_q (h := ?_)) | (refine y_s (h := ?_)) | (refine y_t (h := ?_)) | (refine y_k (h := ?_)) | (refine lex_nil (by kernel_rfl) ?_) | (refine awp_sq ?_) | (refine awp_rg ?_) | (refine awp_rd (by kernel_rfl) (by kernel_rfl) ?_) | (refine awp_block ?_) | (refine awp_exit ?_) | (refine awp_ret ?_) | (refine awp_skip ?_))
  (first | (refine c_q (t0) (h := ?_)) | (refine z_q (t0) (h := ?_)))
  repeat (first | (refine x_q (h := ?_)) | (refine xd_q (h := ?_)) | (refine w_q (h := ?_)) | (refine w_s (h := ?_)) | (refine w_t (h := ?_)) | (refine w_k (h := ?_)) | (refine y_q (h := ?_)) | (refine y_s (h := ?_)) | (refine y_t (h := ?_)) | (refine y_k (h := ?_)) | (refine lex_nil (by kernel_rfl) ?_) | (refine awp_sq ?_) | (refine awp_rg ?_) | (refine awp_rd (by kernel_rfl) (by kernel_rfl) ?_) | (refine awp_block ?_) | (refine awp_exit ?_) | (refine awp_ret ?_) | (refine awp_skip ?_))
  rw [w0]
  repeat (first | (refine x_q (h := ?_)) | (refine xd_q (h := ?_)) | (refine w_q (h := ?_)) | (refine w_s (h := ?_)) | (refine w_t (h := ?_)) | (refine w_k (h := ?_)) | (refine y_q (h := ?_)) | (refine y_s (h := ?_)) | (refine y_t (h := ?_)) | (refine y_k (h := ?_)) | (refine lex_nil (by kernel_rfl) ?_) | (refine awp_sq ?_) | (refine awp_rg ?_) | (refine awp_rd (by kernel_rfl) (by kernel_rfl) ?_) | (refine awp_block ?_) | (refine awp_exit ?_) | (refine awp_ret ?_) | (refine awp_skip ?_))
  (first | (refine c_q (tA) (h := ?_)) | (refine z_q (tA) (h := ?_)))
  repeat (first | (refine x_q (h := ?_)) | (refine xd_q (h := ?_)) | (refine w_q (h := ?_)) | (refine w_s (h := ?_)) | (refine w_t (h := ?_)) | (refine w_k (h := ?_)) | (refine y_q (h := ?_)) | (refine y_s (h := ?_)) | (refine y_t (h := ?_)) | (refine y_k (h := ?_)) | (refine lex_nil (by kernel_rfl) ?_) | (refine awp_sq ?_) | (refine awp_rg ?_) | (refine awp_rd (by kernel_rfl) (by kernel_rfl) ?_) | (refine awp_block ?_) | (refine awp_exit ?_) | (refine awp_ret ?_) | (refine awp_skip ?_))
  (first | (refine c_q (tBb) (h := ?_)) | (refine z_q (tBb) (h := ?_)))
  repeat (first | (refine x_q (h := ?_)) | (refine xd_q (h := ?_)) | (refine w_q (h := ?_)) | (refine w_s (h := ?_)) | (refine w_t (h := ?_)) | (refine w_k (h := ?_)) | (refine y_q (h := ?_)) | (refine y_s (h := ?_)) | (refine y_t (h := ?_)) | (refine y_k (h := ?_)) | (refine lex_nil (by kernel_rfl) ?_) | (refine awp_sq ?_) | (refine awp_rg ?_) | (refine awp_rd (by kernel_rfl) (by kernel_rfl) ?_) | (refine awp_block ?_) | (refine awp_exit ?_) | (refine awp_ret ?_) | (refine awp_skip ?_))
  refine awp_loop (X := Nat) (fun i => i ≤ n) (fun i => [(0, .arg 0 (BY code)), (1, .arg 1 (BY more)), (5, .bp 5 0), (6, .t (.v (.int .i64 n))), (7, .t (.fl a)), (8, .t (.fl b)), (9, .own 52 0 i), (10, .t (.v (.int .i64 i)))])
    (fun i => [(52, .sl 4 (.bl (sn.take i))), (5, .box 38 [.t (.f .f32 m0), .t (.f .f32 sp0), .t (.f .f32 no), .t (.f .f32 dr)])]) (fun i => n - i)
    0 ⟨by omega, fun i => i, ⟨rfl, rfl, rfl, rfl, rfl, rfl, rfl, rfl, trivial⟩, ⟨rfl, rfl, trivial⟩, injOn_id _⟩ (fun i hi => ?_)
  have hz : (sn.take i).length = i := by simp [hsl]; omega
  repeat (first | (refine x_q (h := ?_)) | (refine xd_q (h := ?_)) | (refine w_q (h := ?_)) | (refine w_s (h := ?_)) | (refine w_t (h := ?_)) | (refine w_k (h := ?_)) | (refine y_q (h := ?_)) | (refine y_s (h := ?_)) | (refine y_t (h := ?_)) | (refine y_k (h := ?_)) | (refine lex_nil (by kernel_rfl) ?_) | (refine awp_sq ?_) | (refine awp_rg ?_) | (refine awp_rd (by kernel_rfl) (by kernel_rfl) ?_) | (refine awp_block ?_) | (refine awp_exit ?_) | (refine awp_ret ?_) | (refine awp_skip ?_))
  refine awp_if rfl (fun h => ?_) (fun h => ?_)
  · simp only [icmp, decide_eq_true_eq] at h
    have ti := b10At_c more (1 + (i : Int)) 3 hm bm (by omega) (by omega)
    repeat (first | (refine x_q (h := ?_)) | (refine xd_q (h := ?_)) | (refine w_q (h := ?_)) | (refine w_s (h := ?_)) | (refine w_t (h := ?_)) | (refine w_k (h := ?_)) | (refine y_q (h := ?_)) | (refine y_s (h := ?_)) | (refine y_t (h := ?_)) | (refine y_k (h := ?_)) | (refine lex_nil (by kernel_rfl) ?_) | (refine awp_sq ?_) | (refine awp_rg ?_) | (refine awp_rd (by kernel_rfl) (by kernel_rfl) ?_) | (refine awp_block ?_) | (refine awp_exit ?_) | (refine awp_ret ?_) | (refine awp_skip ?_))
    (first | (refine c_q (ti) (h := ?_)) | (refine z_q (ti) (h := ?_)))
    repeat (first | (refine x_q (h := ?_)) | (refine xd_q (h := ?_)) | (refine w_q (h := ?_)) | (refine w_s (h := ?_)) | (refine w_t (h := ?_)) | (refine w_k (h := ?_)) | (refine y_q (h := ?_)) | (refine y_s (h := ?_)) | (refine y_t (h := ?_)) | (refine y_k (h := ?_)) | (refine lex_nil (by kernel_rfl) ?_) | (refine awp_sq ?_) | (refine awp_rg ?_) | (refine awp_rd (by kernel_rfl) (by kernel_rfl) ?_) | (refine awp_block ?_) | (refine awp_exit ?_) | (refine awp_ret ?_) | (refine awp_skip ?_))
    (first | (refine a_s (hn := by exact hz) (h := ?_)) | (refine b_s (hn := by exact hz) (h := ?_)))
    repeat (first | (refine x_q (h := ?_)) | (refine xd_q (h := ?_)) | (refine w_q (h := ?_)) | (refine w_s (h := ?_)) | (refine w_t (h := ?_)) | (refine w_k (h := ?_)) | (refine y_q (h := ?_)) | (refine y_s (h := ?_)) | (refine y_t (h := ?_)) | (refine y_k (h := ?_)) | (refine lex_nil (by kernel_rfl) ?_) | (refine awp_sq ?_) | (refine awp_rg ?_) | (refine awp_rd (by kernel_rfl) (by kernel_rfl) ?_) | (refine awp_block ?_) | (refine awp_exit ?_) | (refine awp_ret ?_) | (refine awp_skip ?_))
    exact ⟨i + 1, by omega, by omega, fun i => i, ⟨rfl, rfl, rfl, rfl, rfl, rfl, own_eq (by simp only [T.app, T.len, List.length_append, hz]; rfl), rfl, trivial⟩, ⟨sl_eq (congrArg T.bl (take_snB (by omega) (hsg i (by omega)))), rfl, trivial⟩, injOn_id _⟩
  simp only [icmp, decide_eq_false_iff_not] at h
  obtain rfl : i = n := by omega
  rw [List.take_of_length_le (by omega : sn.length ≤ i)]
  repeat (first | (refine x_q (h := ?_)) | (refine xd_q (h := ?_)) | (refine w_q (h := ?_)) | (refine w_s (h := ?_)) | (refine w_t (h := ?_)) | (refine w_k (h := ?_)) | (refine y_q (h := ?_)) | (refine y_s (h := ?_)) | (refine y_t (h := ?_)) | (refine y_k (h := ?_)) | (refine lex_nil (by kernel_rfl) ?_) | (refine awp_sq ?_) | (refine awp_rg ?_) | (refine awp_rd (by kernel_rfl) (by kernel_rfl) ?_) | (refine awp_block ?_) | (refine awp_exit ?_) | (refine awp_ret ?_) | (refine awp_skip ?_))
  (first | (refine c_s (tR) (h := ?_)) | (refine z_s (tR) (h := ?_)))
  repeat (first | (refine x_q (h := ?_)) | (refine xd_q (h := ?_)) | (refine w_q (h := ?_)) | (refine w_s (h := ?_)) | (refine w_t (h := ?_)) | (refine w_k (h := ?_)) | (refine y_q (h := ?_)) | (refine y_s (h := ?_)) | (refine y_t (h := ?_)) | (refine y_k (h := ?_)) | (refine lex_nil (by kernel_rfl) ?_) | (refine awp_sq ?_) | (refine awp_rg ?_) | (refine awp_rd (by kernel_rfl) (by kernel_rfl) ?_) | (refine awp_block ?_) | (refine awp_exit ?_) | (refine awp_ret ?_) | (refine awp_skip ?_))
  (first | (refine c_s (tR2) (h := ?_)) | (refine z_s (tR2) (h := ?_)))
  repeat (first | (refine x_q (h := ?_)) | (refine xd_q (h := ?_)) | (refine w_q (h := ?_)) | (refine w_s (h := ?_)) | (refine w_t (h := ?_)) | (refine w_k (h := ?_)) | (refine y_q (h := ?_)) | (refine y_s (h := ?_)) | (refine y_t (h := ?_)) | (refine y_k (h := ?_)) | (refine lex_nil (by kernel_rfl) ?_) | (refine awp_sq ?_) | (refine awp_rg ?_) | (refine awp_rd (by kernel_rfl) (by kernel_rfl) ?_) | (refine awp_block ?_) | (refine awp_exit ?_) | (refine awp_ret ?_) | (refine awp_skip ?_))
  (first | (refine c_s (tK) (h := ?_)) | (refine z_s (tK) (h := ?_)))
  repeat (first | (refine x_q (h := ?_)) | (refine xd_q (h := ?_)) | (refine w_q (h := ?_)) | (refine w_s (h := ?_)) | (refine w_t (h := ?_)) | (refine w_k (h := ?_)) | (refine y_q (h := ?_)) | (refine y_s (h := ?_)) | (refine y_t (h := ?_)) | (refine y_k (h := ?_)) | (refine lex_nil (by kernel_rfl) ?_) | (refine awp_sq ?_) | (refine awp_rg ?_) | (refine awp_rd (by kernel_rfl) (by kernel_rfl) ?_) | (refine awp_block ?_) | (refine awp_exit ?_) | (refine awp_ret ?_) | (refine awp_skip ?_))
  (first | (refine c_s (tS) (h := ?_)) | (refine z_s (tS) (h := ?_)))
  repeat (first | (refine x_q (h := ?_)) | (refine xd_q (h := ?_)) | (refine w_q (h := ?_)) | (refine w_s (h := ?_)) | (refine w_t (h := ?_)) | (refine w_k (h := ?_)) | (refine y_q (h := ?_)) | (refine y_s (h := ?_)) | (refine y_t (h := ?_)) | (refine y_k (h := ?_)) | (refine lex_nil (by kernel_rfl) ?_) | (refine awp_sq ?_) | (refine awp_rg ?_) | (refine awp_rd (by kernel_rfl) (by kernel_rfl) ?_) | (refine awp_block ?_) | (refine awp_exit ?_) | (refine awp_ret ?_) | (refine awp_skip ?_))
  (first | (refine c_q (tV) (h := ?_)) | (refine z_q (tV) (h := ?_)))
  repeat (first | (refine x_q (h := ?_)) | (refine xd_q (h := ?_)) | (refine w_q (h := ?_)) | (refine w_s (h := ?_)) | (refine w_t (h := ?_)) | (refine w_k (h := ?_)) | (refine y_q (h := ?_)) | (refine y_s (h := ?_)) | (refine y_t (h := ?_)) | (refine y_k (h := ?_)) | (refine lex_nil (by kernel_rfl) ?_) | (refine awp_sq ?_) | (refine awp_rg ?_) | (refine awp_rd (by kernel_rfl) (by kernel_rfl) ?_) | (refine awp_block ?_) | (refine awp_exit ?_) | (refine awp_ret ?_) | (refine awp_skip ?_))
  (first | (refine c_q (tSL) (h := ?_)) | (refine z_q (tSL) (h := ?_)))
  repeat (first | (refine x_q (h := ?_)) | (refine xd_q (h := ?_)) | (refine w_q (h := ?_)) | (refine w_s (h := ?_)) | (refine w_t (h := ?_)) | (refine w_k (h := ?_)) | (refine y_q (h := ?_)) | (refine y_s (h := ?_)) | (refine y_t (h := ?_)) | (refine y_k (h := ?_)) | (refine lex_nil (by kernel_rfl) ?_) | (refine awp_sq ?_) | (refine awp_rg ?_) | (refine awp_rd (by kernel_rfl) (by kernel_rfl) ?_) | (refine awp_block ?_) | (refine awp_exit ?_) | (refine awp_ret ?_) | (refine awp_skip ?_))
  (first | (refine c_q (tN) (h := ?_)) | (refine z_q (tN) (h := ?_)))
  repeat (first | (refine x_q (h := ?_)) | (refine xd_q (h := ?_)) | (refine w_q (h := ?_)) | (refine w_s (h := ?_)) | (refine w_t (h := ?_)) | (refine w_k (h := ?_)) | (refine y_q (h := ?_)) | (refine y_s (h := ?_)) | (refine y_t (h := ?_)) | (refine y_k (h := ?_)) | (refine lex_nil (by kernel_rfl) ?_) | (refine awp_sq ?_) | (refine awp_rg ?_) | (refine awp_rd (by kernel_rfl) (by kernel_rfl) ?_) | (refine awp_block ?_) | (refine awp_exit ?_) | (refine awp_ret ?_) | (refine awp_skip ?_))
  (first | (refine c_q (tBL) (h := ?_)) | (refine z_q (tBL) (h := ?_)))
  repeat (first | (refine x_q (h := ?_)) | (refine xd_q (h := ?_)) | (refine w_q (h := ?_)) | (refine w_s (h := ?_)) | (refine w_t (h := ?_)) | (refine w_k (h := ?_)) | (refine y_q (h := ?_)) | (refine y_s (h := ?_)) | (refine y_t (h := ?_)) | (refine y_k (h := ?_)) | (refine lex_nil (by kernel_rfl) ?_) | (refine awp_sq ?_) | (refine awp_rg ?_) | (refine awp_rd (by kernel_rfl) (by kernel_rfl) ?_) | (refine awp_block ?_) | (refine awp_exit ?_) | (refine awp_ret ?_) | (refine awp_skip ?_))
  refine awp_ifF rfl rfl ?_
  refine awp_skip ?_
  refine awp_weak (fun i => i) [(5, .bp 5 0), (6, .t (.v (.int .i64 i))), (7, .t (.fl a)), (9, .own 52 0 i), (11, .own 70 0 L1.length), (12, .own 1070 0 L2.length), (19, .own 88 0 K1.length), (20, .own 1088 0 K2.length)] [(5, .box 38 [.t (.f .f32 m0), .t (.f .f32 sp0), .t (.f .f32 no), .t (.f .f32 dr)]), (52, .sl 4 (.bl sn)), (70, .sl 29 (.fl L1)), (1070, .sl 29 (.fl L2)), (88, .sl 29 (.fl K1)), (1088, .sl 29 (.fl K2))] (by repeat (first | exact trivial | refine ⟨rfl, ?_⟩)) (by repeat (first | exact trivial | refine ⟨rfl, ?_⟩)) (injOn_id _) ?_
  repeat (first | (refine x_q (h := ?_)) | (refine xd_q (h := ?_)) | (refine w_q (h := ?_)) | (refine w_s (h := ?_)) | (refine w_t (h := ?_)) | (refine w_k (h := ?_)) | (refine y_q (h := ?_)) | (refine y_s (h := ?_)) | (refine y_t (h := ?_)) | (refine y_k (h := ?_)) | (refine lex_nil (by kernel_rfl) ?_) | (refine awp_sq ?_) | (refine awp_rg ?_) | (refine awp_rd (by kernel_rfl) (by kernel_rfl) ?_) | (refine awp_block ?_) | (refine awp_exit ?_) | (refine awp_ret ?_) | (refine awp_skip ?_))
  refine awp_loop (X := Nat) (fun j => j ≤ i) (fun j => [(5, .bp 5 0), (6, .t (.v (.int .i64 i))), (7, .t (.fl a)), (9, .own 52 0 i), (11, .own 70 0 L1.length), (12, .own 1070 0 L2.length), (19, .own 88 0 K1.length), (20, .own 1088 0 K2.length), (26, .t (.f .f64 (fconv .f32 .f64 (M j)))), (27, .t (.f .f64 (fconv .f32 .f64 (P j)))), (169, .t (.v (.int .i64 a.length))), (170, .t (.v (.int .i64 j)))])
    (fun j => [(5, .box 38 [.t (.f .f32 m0), .t (.f .f32 sp0), .t (.f .f32 no), .t (.f .f32 dr)]), (52, .sl 4 (.bl sn)), (70, .sl 29 (.fl L1)), (1070, .sl 29 (.fl L2)), (88, .sl 29 (.fl K1)), (1088, .sl 29 (.fl K2))]) (fun j => i - j)
    0 ⟨by omega, fun i => i, ⟨rfl, rfl, rfl, rfl, rfl, rfl, rfl, rfl, by rw [hM0]; rfl, by rw [hP0]; rfl, rfl, rfl, trivial⟩, ⟨rfl, rfl, rfl, rfl, rfl, rfl, trivial⟩, injOn_id _⟩ (fun j hj => ?_)
  repeat (first | (refine x_q (h := ?_)) | (refine xd_q (h := ?_)) | (refine w_q (h := ?_)) | (refine w_s (h := ?_)) | (refine w_t (h := ?_)) | (refine w_k (h := ?_)) | (refine y_q (h := ?_)) | (refine y_s (h := ?_)) | (refine y_t (h := ?_)) | (refine y_k (h := ?_)) | (refine lex_nil (by kernel_rfl) ?_) | (refine awp_sq ?_) | (refine awp_rg ?_) | (refine awp_rd (by kernel_rfl) (by kernel_rfl) ?_) | (refine awp_block ?_) | (refine awp_exit ?_) | (refine awp_ret ?_) | (refine awp_skip ?_))
  refine awp_if rfl (fun h5 => ?_) (fun h5 => ?_)
  · simp only [icmp, decide_eq_true_eq] at h5
    obtain ⟨c1, c2, c3, c4, c5, c6, c7⟩ := hC' j (by omega)
    have g1 : L1.getD (0 + j) 0 = M (j + 1) := by rw [Nat.zero_add]; exact hg1' j (by omega)
    have g2 : L2.getD (0 + j) 0 = P (j + 1) := by rw [Nat.zero_add]; exact hg2' j (by omega)
    have q2 : K2.getD (0 + j) 0 = Q j := by rw [Nat.zero_add]; exact hq2 j (by omega)
    repeat (first | (refine x_q (h := ?_)) | (refine xd_q (h := ?_)) | (refine w_q (h := ?_)) | (refine w_s (h := ?_)) | (refine w_t (h := ?_)) | (refine w_k (h := ?_)) | (refine y_q (h := ?_)) | (refine y_s (h := ?_)) | (refine y_t (h := ?_)) | (refine y_k (h := ?_)) | (refine lex_nil (by kernel_rfl) ?_) | (refine awp_sq ?_) | (refine awp_rg ?_) | (refine awp_rd (by kernel_rfl) (by kernel_rfl) ?_) | (refine awp_block ?_) | (refine awp_exit ?_) | (refine awp_ret ?_) | (refine awp_skip ?_))
    (first | (refine w_r (q_fmin rfl rfl rfl) (h := ?_)) | (refine y_r (q_fmin rfl rfl rfl) (h := ?_)))
    repeat (first | (refine x_q (h := ?_)) | (refine xd_q (h := ?_)) | (refine w_q (h := ?_)) | (refine w_s (h := ?_)) | (refine w_t (h := ?_)) | (refine w_k (h := ?_)) | (refine y_q (h := ?_)) | (refine y_s (h := ?_)) | (refine y_t (h := ?_)) | (refine y_k (h := ?_)) | (refine lex_nil (by kernel_rfl) ?_) | (refine awp_sq ?_) | (refine awp_rg ?_) | (refine awp_rd (by kernel_rfl) (by kernel_rfl) ?_) | (refine awp_block ?_) | (refine awp_exit ?_) | (refine awp_ret ?_) | (refine awp_skip ?_))
    cases hb : sn.getD (0 + j) false with
    | false =>
      have c1' := c1 (by rw [Nat.zero_add] at hb; exact hb)
      repeat (first | (refine x_q (h := ?_)) | (refine xd_q (h := ?_)) | (refine w_q (h := ?_)) | (refine w_s (h := ?_)) | (refine w_t (h := ?_)) | (refine w_k (h := ?_)) | (refine y_q (h := ?_)) | (refine y_s (h := ?_)) | (refine y_t (h := ?_)) | (refine y_k (h := ?_)) | (refine lex_nil (by kernel_rfl) ?_) | (refine awp_sq ?_) | (refine awp_rg ?_) | (refine awp_rd (by kernel_rfl) (by kernel_rfl) ?_) | (refine awp_block ?_) | (refine awp_exit ?_) | (refine awp_ret ?_) | (refine awp_skip ?_))
      rw [g1, c1']
      repeat (first | (refine x_q (h := ?_)) | (refine xd_q (h := ?_)) | (refine w_q (h := ?_)) | (refine w_s (h := ?_)) | (refine w_t (h := ?_)) | (refine w_k (h := ?_)) | (refine y_q (h := ?_)) | (refine y_s (h := ?_)) | (refine y_t (h := ?_)) | (refine y_k (h := ?_)) | (refine lex_nil (by kernel_rfl) ?_) | (refine awp_sq ?_) | (refine awp_rg ?_) | (refine awp_rd (by kernel_rfl) (by kernel_rfl) ?_) | (refine awp_block ?_) | (refine awp_exit ?_) | (refine awp_ret ?_) | (refine awp_skip ?_))
      rw [c2]
      repeat (first | (refine x_q (h := ?_)) | (refine xd_q (h := ?_)) | (refine w_q (h := ?_)) | (refine w_s (h := ?_)) | (refine w_t (h := ?_)) | (refine w_k (h := ?_)) | (refine y_q (h := ?_)) | (refine y_s (h := ?_)) | (refine y_t (h := ?_)) | (refine y_k (h := ?_)) | (refine lex_nil (by kernel_rfl) ?_) | (refine awp_sq ?_) | (refine awp_rg ?_) | (refine awp_rd (by kernel_rfl) (by kernel_rfl) ?_) | (refine awp_block ?_) | (refine awp_exit ?_) | (refine awp_ret ?_) | (refine awp_skip ?_))
      rw [c3]
      repeat (first | (refine x_q (h := ?_)) | (refine xd_q (h := ?_)) | (refine w_q (h := ?_)) | (refine w_s (h := ?_)) | (refine w_t (h := ?_)) | (refine w_k (h := ?_)) | (refine y_q (h := ?_)) | (refine y_s (h := ?_)) | (refine y_t (h := ?_)) | (refine y_k (h := ?_)) | (refine lex_nil (by kernel_rfl) ?_) | (refine awp_sq ?_) | (refine awp_rg ?_) | (refine awp_rd (by kernel_rfl) (by kernel_rfl) ?_) | (refine awp_block ?_) | (refine awp_exit ?_) | (refine awp_ret ?_) | (refine awp_skip ?_))
      rw [g2, c4]
      repeat (first | (refine x_q (h := ?_)) | (refine xd_q (h := ?_)) | (refine w_q (h := ?_)) | (refine w_s (h := ?_)) | (refine w_t (h := ?_)) | (refine w_k (h := ?_)) | (refine y_q (h := ?_)) | (refine y_s (h := ?_)) | (refine y_t (h := ?_)) | (refine y_k (h := ?_)) | (refine lex_nil (by kernel_rfl) ?_) | (refine awp_sq ?_) | (refine awp_rg ?_) | (refine awp_rd (by kernel_rfl) (by kernel_rfl) ?_) | (refine awp_block ?_) | (refine awp_exit ?_) | (refine awp_ret ?_) | (refine awp_skip ?_))
      rw [g2, c5]
      repeat (first | (refine x_q (h := ?_)) | (refine xd_q (h := ?_)) | (refine w_q (h := ?_)) | (refine w_s (h := ?_)) | (refine w_t (h := ?_)) | (refine w_k (h := ?_)) | (refine y_q (h := ?_)) | (refine y_s (h := ?_)) | (refine y_t (h := ?_)) | (refine y_k (h := ?_)) | (refine lex_nil (by kernel_rfl) ?_) | (refine awp_sq ?_) | (refine awp_rg ?_) | (refine awp_rd (by kernel_rfl) (by kernel_rfl) ?_) | (refine awp_block ?_) | (refine awp_exit ?_) | (refine awp_ret ?_) | (refine awp_skip ?_))
      rw [q2, g2, c6]
      repeat (first | (refine x_q (h := ?_)) | (refine xd_q (h := ?_)) | (refine w_q (h := ?_)) | (refine w_s (h := ?_)) | (refine w_t (h := ?_)) | (refine w_k (h := ?_)) | (refine y_q (h := ?_)) | (refine y_s (h := ?_)) | (refine y_t (h := ?_)) | (refine y_k (h := ?_)) | (refine lex_nil (by kernel_rfl) ?_) | (refine awp_sq ?_) | (refine awp_rg ?_) | (refine awp_rd (by kernel_rfl) (by kernel_rfl) ?_) | (refine awp_block ?_) | (refine awp_exit ?_) | (refine awp_ret ?_) | (refine awp_skip ?_))
      rw [q2, c7]
      repeat (first | (refine x_q (h := ?_)) | (refine xd_q (h := ?_)) | (refine w_q (h := ?_)) | (refine w_s (h := ?_)) | (refine w_t (h := ?_)) | (refine w_k (h := ?_)) | (refine y_q (h := ?_)) | (refine y_s (h := ?_)) | (refine y_t (h := ?_)) | (refine y_k (h := ?_)) | (refine lex_nil (by kernel_rfl) ?_) | (refine awp_sq ?_) | (refine awp_rg ?_) | (refine awp_rd (by kernel_rfl) (by kernel_rfl) ?_) | (refine awp_block ?_) | (refine awp_exit ?_) | (refine awp_ret ?_) | (refine awp_skip ?_))
      refine awp_ifF rfl rfl ?_
      repeat (first | (refine x_q (h := ?_)) | (refine xd_q (h := ?_)) | (refine w_q (h := ?_)) | (refine w_s (h := ?_)) | (refine w_t (h := ?_)) | (refine w_k (h := ?_)) | (refine y_q (h := ?_)) | (refine y_s (h := ?_)) | (refine y_t (h := ?_)) | (refine y_k (h := ?_)) | (refine lex_nil (by kernel_rfl) ?_) | (refine awp_sq ?_) | (refine awp_rg ?_) | (refine awp_rd (by kernel_rfl) (by kernel_rfl) ?_) | (refine awp_block ?_) | (refine awp_exit ?_) | (refine awp_ret ?_) | (refine awp_skip ?_))
      exact ⟨j + 1, by omega, by omega, fun i => i, ⟨rfl, rfl, rfl, rfl, rfl, rfl, rfl, rfl, rfl, congrArg (fun c => AV.t (.f .f64 (fconv .f32 .f64 c))) g2, rfl, rfl, trivial⟩, ⟨rfl, rfl, rfl, rfl, rfl, rfl, trivial⟩, injOn_id _⟩
    | true =>
      repeat (first | (refine x_q (h := ?_)) | (refine xd_q (h := ?_)) | (refine w_q (h := ?_)) | (refine w_s (h := ?_)) | (refine w_t (h := ?_)) | (refine w_k (h := ?_)) | (refine y_q (h := ?_)) | (refine y_s (h := ?_)) | (refine y_t (h := ?_)) | (refine y_k (h := ?_)) | (refine lex_nil (by kernel_rfl) ?_) | (refine awp_sq ?_) | (refine awp_rg ?_) | (refine awp_rd (by kernel_rfl) (by kernel_rfl) ?_) | (refine awp_block ?_) | (refine awp_exit ?_) | (refine awp_ret ?_) | (refine awp_skip ?_))
      rw [g1]
      repeat (first | (refine x_q (h := ?_)) | (refine xd_q (h := ?_)) | (refine w_q (h := ?_)) | (refine w_s (h := ?_)) | (refine w_t (h := ?_)) | (refine w_k (h := ?_)) | (refine y_q (h := ?_)) | (refine y_s (h := ?_)) | (refine y_t (h := ?_)) | (refine y_k (h := ?_)) | (refine lex_nil (by kernel_rfl) ?_) | (refine awp_sq ?_) | (refine awp_rg ?_) | (refine awp_rd (by kernel_rfl) (by kernel_rfl) ?_) | (refine awp_block ?_) | (refine awp_exit ?_) | (refine awp_ret ?_) | (refine awp_skip ?_))
      repeat (first | (refine x_q (h := ?_)) | (refine xd_q (h := ?_)) | (refine w_q (h := ?_)) | (refine w_s (h := ?_)) | (refine w_t (h := ?_)) | (refine w_k (h := ?_)) | (refine y_q (h := ?_)) | (refine y_s (h := ?_)) | (refine y_t (h := ?_)) | (refine y_k (h := ?_)) | (refine lex_nil (by kernel_rfl) ?_) | (refine awp_sq ?_) | (refine awp_rg ?_) | (refine awp_rd (by kernel_rfl) (by kernel_rfl) ?_) | (refine awp_block ?_) | (refine awp_exit ?_) | (refine awp_ret ?_) | (refine awp_skip ?_))
      rw [c2]
      repeat (first | (refine x_q (h := ?_)) | (refine xd_q (h := ?_)) | (refine w_q (h := ?_)) | (refine w_s (h := ?_)) | (refine w_t (h := ?_)) | (refine w_k (h := ?_)) | (refine y_q (h := ?_)) | (refine y_s (h := ?_)) | (refine y_t (h := ?_)) | (refine y_k (h := ?_)) | (refine lex_nil (by kernel_rfl) ?_) | (refine awp_sq ?_) | (refine awp_rg ?_) | (refine awp_rd (by kernel_rfl) (by kernel_rfl) ?_) | (refine awp_block ?_) | (refine awp_exit ?_) | (refine awp_ret ?_) | (refine awp_skip ?_))
      rw [c3]
      repeat (first | (refine x_q (h := ?_)) | (refine xd_q (h := ?_)) | (refine w_q (h := ?_)) | (refine w_s (h := ?_)) | (refine w_t (h := ?_)) | (refine w_k (h := ?_)) | (refine y_q (h := ?_)) | (refine y_s (h := ?_)) | (refine y_t (h := ?_)) | (refine y_k (h := ?_)) | (refine lex_nil (by kernel_rfl) ?_) | (refine awp_sq ?_) | (refine awp_rg ?_) | (refine awp_rd (by kernel_rfl) (by kernel_rfl) ?_) | (refine awp_block ?_) | (refine awp_exit ?_) | (refine awp_ret ?_) | (refine awp_skip ?_))
      rw [g2, c4]
      repeat (first | (refine x_q (h := ?_)) | (refine xd_q (h := ?_)) | (refine w_q (h := ?_)) | (refine w_s (h := ?_)) | (refine w_t (h := ?_)) | (refine w_k (h := ?_)) | (refine y_q (h := ?_)) | (refine y_s (h := ?_)) | (refine y_t (h := ?_)) | (refine y_k (h := ?_)) | (refine lex_nil (by kernel_rfl) ?_) | (refine awp_sq ?_) | (refine awp_rg ?_) | (refine awp_rd (by kernel_rfl) (by kernel_rfl) ?_) | (refine awp_block ?_) | (refine awp_exit ?_) | (refine awp_ret ?_) | (refine awp_skip ?_))
      rw [g2, c5]
      repeat (first | (refine x_q (h := ?_)) | (refine xd_q (h := ?_)) | (refine w_q (h := ?_)) | (refine w_s (h := ?_)) | (refine w_t (h := ?_)) | (refine w_k (h := ?_)) | (refine y_q (h := ?_)) | (refine y_s (h := ?_)) | (refine y_t (h := ?_)) | (refine y_k (h := ?_)) | (refine lex_nil (by kernel_rfl) ?_) | (refine awp_sq ?_) | (refine awp_rg ?_) | (refine awp_rd (by kernel_rfl) (by kernel_rfl) ?_) | (refine awp_block ?_) | (refine awp_exit ?_) | (refine awp_ret ?_) | (refine awp_skip ?_))
      rw [q2, g2, c6]
      repeat (first | (refine x_q (h := ?_)) | (refine xd_q (h := ?_)) | (refine w_q (h := ?_)) | (refine w_s (h := ?_)) | (refine w_t (h := ?_)) | (refine w_k (h := ?_)) | (refine y_q (h := ?_)) | (refine y_s (h := ?_)) | (refine y_t (h := ?_)) | (refine y_k (h := ?_)) | (refine lex_nil (by kernel_rfl) ?_) | (refine awp_sq ?_) | (refine awp_rg ?_) | (refine awp_rd (by kernel_rfl) (by kernel_rfl) ?_) | (refine awp_block ?_) | (refine awp_exit ?_) | (refine awp_ret ?_) | (refine awp_skip ?_))
      rw [q2, c7]
      repeat (first | (refine x_q (h := ?_)) | (refine xd_q (h := ?_)) | (refine w_q (h := ?_)) | (refine w_s (h := ?_)) | (refine w_t (h := ?_)) | (refine w_k (h := ?_)) | (refine y_q (h := ?_)) | (refine y_s (h := ?_)) | (refine y_t (h := ?_)) | (refine y_k (h := ?_)) | (refine lex_nil (by kernel_rfl) ?_) | (refine awp_sq ?_) | (refine awp_rg ?_) | (refine awp_rd (by kernel_rfl) (by kernel_rfl) ?_) | (refine awp_block ?_) | (refine awp_exit ?_) | (refine awp_ret ?_) | (refine awp_skip ?_))
      refine awp_ifF rfl rfl ?_
      repeat (first | (refine x_q (h := ?_)) | (refine xd_q (h := ?_)) | (refine w_q (h := ?_)) | (refine w_s (h := ?_)) | (refine w_t (h := ?_)) | (refine w_k (h := ?_)) | (refine y_q (h := ?_)) | (refine y_s (h := ?_)) | (refine y_t (h := ?_)) | (refine y_k (h := ?_)) | (refine lex_nil (by kernel_rfl) ?_) | (refine awp_sq ?_) | (refine awp_rg ?_) | (refine awp_rd (by kernel_rfl) (by kernel_rfl) ?_) | (refine awp_block ?_) | (refine awp_exit ?_) | (refine awp_ret ?_) | (refine awp_skip ?_))
      exact ⟨j + 1, by omega, by omega, fun i => i, ⟨rfl, rfl, rfl, rfl, rfl, rfl, rfl, rfl, rfl, congrArg (fun c => AV.t (.f .f64 (fconv .f32 .f64 c))) g2, rfl, rfl, trivial⟩, ⟨rfl, rfl, rfl, rfl, rfl, rfl, trivial⟩, injOn_id _⟩
  simp only [icmp, decide_eq_false_iff_not] at h5
  obtain rfl : j = i := by omega
  repeat (first | (refine x_q (h := ?_)) | (refine xd_q (h := ?_)) | (refine w_q (h := ?_)) | (refine w_s (h := ?_)) | (refine w_t (h := ?_)) | (refine w_k (h := ?_)) | (refine y_q (h := ?_)) | (refine y_s (h := ?_)) | (refine y_t (h := ?_)) | (refine y_k (h := ?_)) | (refine lex_nil (by kernel_rfl) ?_) | (refine awp_sq ?_) | (refine awp_rg ?_) | (refine awp_rd (by kernel_rfl) (by kernel_rfl) ?_) | (refine awp_block ?_) | (refine awp_exit ?_) | (refine awp_ret ?_) | (refine awp_skip ?_))
  (first | (refine c_q (tI) (h := ?_)) | (refine z_q (tI) (h := ?_)))
  repeat (first | (refine x_q (h := ?_)) | (refine xd_q (h := ?_)) | (refine w_q (h := ?_)) | (refine w_s (h := ?_)) | (refine w_t (h := ?_)) | (refine w_k (h := ?_)) | (refine y_q (h := ?_)) | (refine y_s (h := ?_)) | (refine y_t (h := ?_)) | (refine y_k (h := ?_)) | (refine lex_nil (by kernel_rfl) ?_) | (refine awp_sq ?_) | (refine awp_rg ?_) | (refine awp_rd (by kernel_rfl) (by kernel_rfl) ?_) | (refine awp_block ?_) | (refine awp_exit ?_) | (refine awp_ret ?_) | (refine awp_skip ?_))
  have gk : K1.getD (0 + (j - 1)) 0 = M j := by rw [Nat.zero_add]; exact hq1
  have gl : L1.getD (0 + (j - 1)) 0 = M j := by rw [Nat.zero_add, hg1' (j - 1) (by omega), show j - 1 + 1 = j by omega]
  (first | (refine c_q (tJ) (h := ?_)) | (refine z_q (tJ) (h := ?_)))
  repeat (first | (refine x_q (h := ?_)) | (refine xd_q (h := ?_)) | (refine w_q (h := ?_)) | (refine w_s (h := ?_)) | (refine w_t (h := ?_)) | (refine w_k (h := ?_)) | (refine y_q (h := ?_)) | (refine y_s (h := ?_)) | (refine y_t (h := ?_)) | (refine y_k (h := ?_)) | (refine lex_nil (by kernel_rfl) ?_) | (refine awp_sq ?_) | (refine awp_rg ?_) | (refine awp_rd (by kernel_rfl) (by kernel_rfl) ?_) | (refine awp_block ?_) | (refine awp_exit ?_) | (refine awp_ret ?_) | (refine awp_skip ?_))
  (first | (refine c_q (tSM) (h := ?_)) | (refine z_q (tSM) (h := ?_)))
  repeat (first | (refine x_q (h := ?_)) | (refine xd_q (h := ?_)) | (refine w_q (h := ?_)) | (refine w_s (h := ?_)) | (refine w_t (h := ?_)) | (refine w_k (h := ?_)) | (refine y_q (h := ?_)) | (refine y_s (h := ?_)) | (refine y_t (h := ?_)) | (refine y_k (h := ?_)) | (refine lex_nil (by kernel_rfl) ?_) | (refine awp_sq ?_) | (refine awp_rg ?_) | (refine awp_rd (by kernel_rfl) (by kernel_rfl) ?_) | (refine awp_block ?_) | (refine awp_exit ?_) | (refine awp_ret ?_) | (refine awp_skip ?_))
  (first | (refine c_q (tNm) (h := ?_)) | (refine z_q (tNm) (h := ?_)))
  repeat (first | (refine x_q (h := ?_)) | (refine xd_q (h := ?_)) | (refine w_q (h := ?_)) | (refine w_s (h := ?_)) | (refine w_t (h := ?_)) | (refine w_k (h := ?_)) | (refine y_q (h := ?_)) | (refine y_s (h := ?_)) | (refine y_t (h := ?_)) | (refine y_k (h := ?_)) | (refine lex_nil (by kernel_rfl) ?_) | (refine awp_sq ?_) | (refine awp_rg ?_) | (refine awp_rd (by kernel_rfl) (by kernel_rfl) ?_) | (refine awp_block ?_) | (refine awp_exit ?_) | (refine awp_ret ?_) | (refine awp_skip ?_))
  (first | (refine c_q (tNc) (h := ?_)) | (refine z_q (tNc) (h := ?_)))
  repeat (first | (refine x_q (h := ?_)) | (refine xd_q (h := ?_)) | (refine w_q (h := ?_)) | (refine w_s (h := ?_)) | (refine w_t (h := ?_)) | (refine w_k (h := ?_)) | (refine y_q (h := ?_)) | (refine y_s (h := ?_)) | (refine y_t (h := ?_)) | (refine y_k (h := ?_)) | (refine lex_nil (by kernel_rfl) ?_) | (refine awp_sq ?_) | (refine awp_rg ?_) | (refine awp_rd (by kernel_rfl) (by kernel_rfl) ?_) | (refine awp_block ?_) | (refine awp_exit ?_) | (refine awp_ret ?_) | (refine awp_skip ?_))
  (first | (refine w_r (q_idx_own (j - 1) tyOk rfl rfl rfl rfl rfl rfl rfl (by omega) (by first | omega | (simp only [T.len]; omega) | assumption)) (h := ?_)) | (refine y_r (q_idx_own (j - 1) tyOk rfl rfl rfl rfl rfl rfl rfl (by omega) (by first | omega | (simp only [T.len]; omega) | assumption)) (h := ?_)))
  repeat (first | (refine x_q (h := ?_)) | (refine xd_q (h := ?_)) | (refine w_q (h := ?_)) | (refine w_s (h := ?_)) | (refine w_t (h := ?_)) | (refine w_k (h := ?_)) | (refine y_q (h := ?_)) | (refine y_s (h := ?_)) | (refine y_t (h := ?_)) | (refine y_k (h := ?_)) | (refine lex_nil (by kernel_rfl) ?_) | (refine awp_sq ?_) | (refine awp_rg ?_) | (refine awp_rd (by kernel_rfl) (by kernel_rfl) ?_) | (refine awp_block ?_) | (refine awp_exit ?_) | (refine awp_ret ?_) | (refine awp_skip ?_))
  rw [gk]
  repeat (first | (refine x_q (h := ?_)) | (refine xd_q (h := ?_)) | (refine w_q (h := ?_)) | (refine w_s (h := ?_)) | (refine w_t (h := ?_)) | (refine w_k (h := ?_)) | (refine y_q (h := ?_)) | (refine y_s (h := ?_)) | (refine y_t (h := ?_)) | (refine y_k (h := ?_)) | (refine lex_nil (by kernel_rfl) ?_) | (refine awp_sq ?_) | (refine awp_rg ?_) | (refine awp_rd (by kernel_rfl) (by kernel_rfl) ?_) | (refine awp_block ?_) | (refine awp_exit ?_) | (refine awp_ret ?_) | (refine awp_skip ?_))
  (first | (refine w_r (q_idx_own (j - 1) tyOk rfl rfl rfl rfl rfl rfl rfl (by omega) (by first | omega | (simp only [T.len]; omega) | assumption)) (h := ?_)) | (refine y_r (q_idx_own (j - 1) tyOk rfl rfl rfl rfl rfl rfl rfl (by omega) (by first | omega | (simp only [T.len]; omega) | assumption)) (h := ?_)))
  repeat (first | (refine x_q (h := ?_)) | (refine xd_q (h := ?_)) | (refine w_q (h := ?_)) | (refine w_s (h := ?_)) | (refine w_t (h := ?_)) | (refine w_k (h := ?_)) | (refine y_q (h := ?_)) | (refine y_s (h := ?_)) | (refine y_t (h := ?_)) | (refine y_k (h := ?_)) | (refine lex_nil (by kernel_rfl) ?_) | (refine awp_sq ?_) | (refine awp_rg ?_) | (refine awp_rd (by kernel_rfl) (by kernel_rfl) ?_) | (refine awp_block ?_) | (refine awp_exit ?_) | (refine awp_ret ?_) | (refine awp_skip ?_))
  rw [gl]
  repeat (first | (refine x_q (h := ?_)) | (refine xd_q (h := ?_)) | (refine w_q (h := ?_)) | (refine w_s (h := ?_)) | (refine w_t (h := ?_)) | (refine w_k (h := ?_)) | (refine y_q (h := ?_)) | (refine y_s (h := ?_)) | (refine y_t (h := ?_)) | (refine y_k (h := ?_)) | (refine lex_nil (by kernel_rfl) ?_) | (refine awp_sq ?_) | (refine awp_rg ?_) | (refine awp_rd (by kernel_rfl) (by kernel_rfl) ?_) | (refine awp_block ?_) | (refine awp_exit ?_) | (refine awp_ret ?_) | (refine awp_skip ?_))
  (first | (refine c_q (tG) (h := ?_)) | (refine z_q (tG) (h := ?_)))
  repeat (first | (refine x_q (h := ?_)) | (refine xd_q (h := ?_)) | (refine w_q (h := ?_)) | (refine w_s (h := ?_)) | (refine w_t (h := ?_)) | (refine w_k (h := ?_)) | (refine y_q (h := ?_)) | (refine y_s (h := ?_)) | (refine y_t (h := ?_)) | (refine y_k (h := ?_)) | (refine lex_nil (by kernel_rfl) ?_) | (refine awp_sq ?_) | (refine awp_rg ?_) | (refine awp_rd (by kernel_rfl) (by kernel_rfl) ?_) | (refine awp_block ?_) | (refine awp_exit ?_) | (refine awp_ret ?_) | (refine awp_skip ?_))
  rw [hk]
  repeat (first | (refine x_q (h := ?_)) | (refine xd_q (h := ?_)) | (refine w_q (h := ?_)) | (refine w_s (h := ?_)) | (refine w_t (h := ?_)) | (refine w_k (h := ?_)) | (refine y_q (h := ?_)) | (refine y_s (h := ?_)) | (refine y_t (h := ?_)) | (refine y_k (h := ?_)) | (refine lex_nil (by kernel_rfl) ?_) | (refine awp_sq ?_) | (refine awp_rg ?_) | (refine awp_rd (by kernel_rfl) (by kernel_rfl) ?_) | (refine awp_block ?_) | (refine awp_exit ?_) | (refine awp_ret ?_) | (refine awp_skip ?_))
  (refine ret_ok tyOk (by first | exact .inr rfl | exact .inl rfl) pi0 rfl (by first | exact .cons (by first | exact .tmp | exact .cell rfl rfl rfl rfl rfl rfl | exact .cell1 rfl rfl rfl rfl rfl) .nil | exact .cons (by first | exact .tmp | exact .cell rfl rfl rfl rfl rfl rfl | exact .cell1 rfl rfl rfl rfl rfl) (.cons (by first | exact .tmp | exact .cell rfl rfl rfl rfl rfl rfl | exact .cell1 rfl rfl rfl rfl rfl) .nil) | exact .cons (by first | exact .tmp | exact .cell rfl rfl rfl rfl rfl rfl | exact .cell1 rfl rfl rfl rfl rfl) (.cons (by first | exact .tmp | exact .cell rfl rfl rfl rfl rfl rfl | exact .cell1 rfl rfl rfl rfl rfl) (.cons (by first | exact .tmp | exact .cell rfl rfl rfl rfl rfl rfl | exact .cell1 rfl rfl rfl rfl rfl) .nil)) | exact .cons (by first | exact .tmp | exact .cell rfl rfl rfl rfl rfl rfl | exact .cell1 rfl rfl rfl rfl rfl) (.cons (by first | exact .tmp | exact .cell rfl rfl rfl rfl rfl rfl | exact .cell1 rfl rfl rfl rfl rfl) (.cons (by first | exact .tmp | exact .cell rfl rfl rfl rfl rfl rfl | exact .cell1 rfl rfl rfl rfl rfl) (.cons (by first | exact .tmp | exact .cell rfl rfl rfl rfl rfl rfl | exact .cell1 rfl rfl rfl rfl rfl) .nil)))) ?_ trivial (injO_0 _); (repeat' (first | exact RetRelL.nil | (refine RetRel.nil rfl ?_) | refine RetRelL.cons ?_ ?_ | refine rr_tup ?_ | refine rr_agg ?_ | refine rr_own rfl ?_ | exact RetRel.arg | exact RetRel.argc | refine rr_t ?_)); all_goals rfl)
end Go.Proofs.Ytjjpjnhjnpplcaa
