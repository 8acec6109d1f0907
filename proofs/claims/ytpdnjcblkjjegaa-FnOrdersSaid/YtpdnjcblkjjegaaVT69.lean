import Derived.Test.YtpdnjcblkjjegaaVT66
import Derived.Test.YtpdnjcblkjjegaaVT68
set_option linter.unusedVariables false
set_option linter.unusedSimpArgs false
namespace Go.Proofs.Ytpdnjcblkjjegaa
open Go.Aw

theorem eql0 {c : Nat} (hc : Fnt .f32 c) (h : fcmp .eql .f32 c 0 = false) : rv .f32 c ≠ 0 := by
  intro h0
  obtain ⟨s, r, rfl, hr, hv⟩ := hc.ex
  have hr0 : r = 0 := by
    rcases Nat.eq_zero_or_pos r with h1 | h1
    · exact h1
    · have := rvR_lt .f32 h1
      rw [rvR0] at this
      rw [hv] at h0
      cases s
      · rw [if_neg Bool.false_ne_true] at h0; grind
      · rw [if_pos rfl] at h0; grind
  subst hr0
  revert h
  cases s
  · rw [show fcmp .eql .f32 (FloatKind.f32.format.word false 0) 0 = true by decide +kernel]; intro h; cases h
  · rw [show fcmp .eql .f32 (FloatKind.f32.format.word true 0) 0 = true by decide +kernel]; intro h; cases h
/-- the second lone term -/
structure X2I (r1 r2 : Rat) (Q x2 : Nat) : Prop where
  fQ : Fnt .f32 Q
  fx : Fnt .f32 x2
  bx : Ab (rv .f32 x2) 1
  hq : Ab (rv .f32 Q - r1 * r1) (101 / 100 * uu)
  hx : Ab (rv .f32 x2 * (1 - rv .f32 Q) - (r2 - rv .f32 Q)) (301 / 100 * uu)
theorem x2_ok {a : List Nat} (h : LkI a) {x1 : Nat} (fx1 : Fnt .f32 x1) (hx1 : rv .f32 x1 = rv .f32 (likR a 1))
    (hbe : fcmp .eql .f32 (fop .sub .f32 1065353216 (fop .add .f32 0 (fop .mul .f32 x1 (likR a 1)))) 0 = false) :
    X2I (rv .f32 (likR a 1)) (rv .f32 (likR a 2)) (fop .add .f32 0 (fop .mul .f32 x1 (likR a 1))) (fop .quo .f32 (fop .sub .f32 (likR a 2) (fop .add .f32 0 (fop .mul .f32 x1 (likR a 1)))) (fop .sub .f32 1065353216 (fop .add .f32 0 (fop .mul .f32 x1 (likR a 1))))) := by
  have b1 := h.b1
  have b2 := h.b2
  have lo := h.lo
  have f2 := h.f2
  have hb11 : Ab (rv .f32 x1 * rv .f32 (likR a 1)) 1 := by rw [hx1]; exact (b1.mul b1).mono (by grind)
  obtain ⟨fm, em⟩ := mulB2 fx1 h.f1 hb11 (by decide +kernel) (by decide +kernel)
  have hmr := mul_rds fx1 h.f1
  have hm1 := hmr.le fnt1 fm (by rw [rv1]; exact hb11.1)
  have hm0 := hmr.ge fnt0 fm (by rw [rv0, hx1]; exact mulself_nn _)
  rw [rv1] at hm1
  rw [rv0] at hm0
  obtain ⟨fQ, eQ⟩ := add0 (M := 2) fm ⟨by grind, by grind⟩ (by decide +kernel)
  rw [hx1] at em
  rw [← eQ] at em hm1 hm0
  generalize fop .add .f32 0 (fop .mul .f32 x1 (likR a 1)) = Q at *
  generalize rv .f32 (likR a 1) = r1 at *
  have hq : Ab (rv .f32 Q - r1 * r1) (101 / 100 * uu) := em.mono (by unfold uu; grind)
  have hlow : rv .f32 Q - rv .f32 (likR a 2) ≤ 1 - rv .f32 Q := by
    have := hq.1
    unfold uu at *
    grind
  have hup : rv .f32 (likR a 2) - rv .f32 Q ≤ 1 - rv .f32 Q := by have := b2.1; grind
  obtain ⟨fB, eB⟩ := subB2 (M := 1) fnt1 fQ (by rw [rv1]; exact ⟨by grind, by grind⟩) (by decide +kernel) (by decide +kernel)
  have hbe := eql0 fB hbe
  obtain ⟨fU, eU⟩ := subB2 (M := 1) f2 fQ ⟨by grind, by grind⟩ (by decide +kernel) (by decide +kernel)
  obtain ⟨s1, s2⟩ := sub_le_sub f2 fQ fnt1 fQ fU fB
  rw [rv1] at s1 s2 eB
  have s1 := s1 hup
  have s2 := s2 hlow
  generalize fop .sub .f32 1065353216 Q = B at *
  generalize fop .sub .f32 (likR a 2) Q = U at *
  have hB0 : 0 < rv .f32 B := by grind
  have hUB : Ab (rv .f32 U) (rv .f32 B) := ⟨s1, by grind⟩
  obtain ⟨fx, bx⟩ := quo_ab fU fB hB0 hUB
  obtain ⟨_, ex⟩ := quoR (M := 1) fU fB hB0 (hUB.mono (by grind)) (by decide +kernel) (by decide +kernel)
  refine ⟨fQ, fx, bx, hq, ?_⟩
  generalize rv .f32 (fop .quo .f32 U B) = x2 at *
  generalize rv .f32 B = Bv at *
  generalize rv .f32 U = Uv at *
  generalize rv .f32 Q = q at *
  generalize rv .f32 (likR a 2) = r2 at *
  have e : x2 * (1 - q) - (r2 - q) = (x2 * Bv - Uv) - x2 * (Bv - (1 - q)) + (Uv - (r2 - q)) := by grind
  rw [e]
  have h2 := bx.mul eB
  have hBv : Bv ≤ 10001 / 10000 := by have := eB.1; unfold uu at *; grind
  have h3 : Ab (x2 * Bv - Uv) (1001 / 1000 * uu * (10001 / 10000)) := ex.mono (by unfold uu; grind)
  refine ((h3.sub h2).add eU).mono ?_
  unfold uu; grind
/-- the third -/
theorem x3_ok {a : List Nat} {k : Nat → Int} (hS : Ser a k) (hl4 : 4 ≤ a.length) (h : LkI a) {x1 x2 Q : Nat} (fx1 : Fnt .f32 x1) (hx1 : rv .f32 x1 = rv .f32 (likR a 1)) (h2 : X2I (rv .f32 (likR a 1)) (rv .f32 (likR a 2)) Q x2)
    (hbe : fcmp .eql .f32 (fop .sub .f32 1065353216 (fop .add .f32 (fop .add .f32 0 (fop .mul .f32 (fop .sub .f32 x1 (fop .mul .f32 x2 x1)) (likR a 1))) (fop .mul .f32 x2 (likR a 2)))) 0 = false) :
    Fnt .f32 (fop .quo .f32 (fop .sub .f32 (likR a 3) (fop .add .f32 (fop .add .f32 0 (fop .mul .f32 (fop .sub .f32 x1 (fop .mul .f32 x2 x1)) (likR a 2))) (fop .mul .f32 x2 (likR a 1)))) (fop .sub .f32 1065353216 (fop .add .f32 (fop .add .f32 0 (fop .mul .f32 (fop .sub .f32 x1 (fop .mul .f32 x2 x1)) (likR a 1))) (fop .mul .f32 x2 (likR a 2))))) ∧
    Ab (rv .f32 (fop .quo .f32 (fop .sub .f32 (likR a 3) (fop .add .f32 (fop .add .f32 0 (fop .mul .f32 (fop .sub .f32 x1 (fop .mul .f32 x2 x1)) (likR a 2))) (fop .mul .f32 x2 (likR a 1)))) (fop .sub .f32 1065353216 (fop .add .f32 (fop .add .f32 0 (fop .mul .f32 (fop .sub .f32 x1 (fop .mul .f32 x2 x1)) (likR a 1))) (fop .mul .f32 x2 (likR a 2)))))) 1 := by
  have b1 := h.b1
  have b2 := h.b2
  have f1 := h.f1
  have f2 := h.f2
  have f3 := h.f3
  have bx := h2.bx
  have fx := h2.fx
  have b1' : Ab (rv .f32 x1) 1 := by rw [hx1]; exact b1
  -- the first term of two
  obtain ⟨ft, et⟩ := mulB2 (M := 1) fx fx1 ((bx.mul b1').mono (by grind)) (by decide +kernel) (by decide +kernel)
  have bt : Ab (rv .f32 (fop .mul .f32 x2 x1)) (1001 / 1000) := (((bx.mul b1').add et).eq (y := rv .f32 (fop .mul .f32 x2 x1)) (by grind)).mono (by unfold uu; grind)
  obtain ⟨fp, ep⟩ := subB2 (M := 2001 / 1000) fx1 ft ((b1'.sub bt).mono (by grind)) (by decide +kernel) (by decide +kernel)
  generalize hpv : fop .sub .f32 x1 (fop .mul .f32 x2 x1) = p at *
  have hp : Ab (rv .f32 p - (rv .f32 (likR a 1) - rv .f32 x2 * rv .f32 (likR a 1))) (301 / 100 * uu) := by
    rw [hx1] at ep et
    refine ((ep.sub et).eq ?_).mono ?_
    · grind
    · unfold uu; grind
  have bp : Ab (rv .f32 p) (201 / 100) := by
    have := (b1.sub (bx.mul b1)).add hp
    refine (this.eq ?_).mono ?_
    · grind
    · unfold uu; grind
  -- the sums
  obtain ⟨g1, c1⟩ := mulB2 (M := 201 / 100) fp f2 ((bp.mul b2).mono (by grind)) (by decide +kernel) (by decide +kernel)
  obtain ⟨g2, c2⟩ := mulB2 (M := 1) fx f1 ((bx.mul b1).mono (by grind)) (by decide +kernel) (by decide +kernel)
  obtain ⟨g3, c3⟩ := mulB2 (M := 201 / 100) fp f1 ((bp.mul b1).mono (by grind)) (by decide +kernel) (by decide +kernel)
  obtain ⟨g4, c4⟩ := mulB2 (M := 1) fx f2 ((bx.mul b2).mono (by grind)) (by decide +kernel) (by decide +kernel)
  have d1 : Ab (rv .f32 (fop .mul .f32 p (likR a 2))) (202 / 100) := (((bp.mul b2).add c1).eq (y := rv .f32 (fop .mul .f32 p (likR a 2))) (by grind)).mono (by unfold uu; grind)
  have d2 : Ab (rv .f32 (fop .mul .f32 x2 (likR a 1))) (101 / 100) := (((bx.mul b1).add c2).eq (y := rv .f32 (fop .mul .f32 x2 (likR a 1))) (by grind)).mono (by unfold uu; grind)
  have d3 : Ab (rv .f32 (fop .mul .f32 p (likR a 1))) (202 / 100) := (((bp.mul b1).add c3).eq (y := rv .f32 (fop .mul .f32 p (likR a 1))) (by grind)).mono (by unfold uu; grind)
  have d4 : Ab (rv .f32 (fop .mul .f32 x2 (likR a 2))) (101 / 100) := (((bx.mul b2).add c4).eq (y := rv .f32 (fop .mul .f32 x2 (likR a 2))) (by grind)).mono (by unfold uu; grind)
  obtain ⟨z1, y1⟩ := add0 g1 d1 (by decide +kernel)
  obtain ⟨z3, y3⟩ := add0 g3 d3 (by decide +kernel)
  obtain ⟨fs, es⟩ := addB2 (M := 303 / 100) z1 g2 (by rw [y1]; exact (d1.add d2).mono (by grind)) (by decide +kernel) (by decide +kernel)
  obtain ⟨fb, eb⟩ := addB2 (M := 303 / 100) z3 g4 (by rw [y3]; exact (d3.add d4).mono (by grind)) (by decide +kernel) (by decide +kernel)
  rw [y1] at es
  rw [y3] at eb
  generalize hsu : fop .add .f32 (fop .add .f32 0 (fop .mul .f32 p (likR a 2))) (fop .mul .f32 x2 (likR a 1)) = su at *
  generalize hbs : fop .add .f32 (fop .add .f32 0 (fop .mul .f32 p (likR a 1))) (fop .mul .f32 x2 (likR a 2)) = bs at *
  have hs : Ab (rv .f32 su - (rv .f32 p * rv .f32 (likR a 2) + rv .f32 x2 * rv .f32 (likR a 1))) (611 / 100 * uu) := by
    refine (((es.add c1).add c2).eq ?_).mono ?_
    · grind
    · unfold uu; grind
  have hb : Ab (rv .f32 bs - (rv .f32 p * rv .f32 (likR a 1) + rv .f32 x2 * rv .f32 (likR a 2))) (611 / 100 * uu) := by
    refine (((eb.add c3).add c4).eq ?_).mono ?_
    · grind
    · unfold uu; grind
  obtain ⟨fE0, e0⟩ := E_err hS (j := 0) (by omega)
  have h4 : 4 ≤ a.length := hl4
  obtain ⟨fE1, e1⟩ := E_err hS (j := 1) (by omega)
  obtain ⟨fE2, e2⟩ := E_err hS (j := 2) (by omega)
  obtain ⟨fE3, e3⟩ := E_err hS (j := 3) (by omega)
  have p0 := h.p0
  have h0 : rv .f32 (dlF (offL a) 0) ≠ 0 := by grind
  have hD : 1 / 33 ≤ dk (rc (offL a)) a.length 0 := by rw [dk0]; exact off_D0 hS h0
  have w0 := W_le hS (rc (offL a)) 0
  have w1 := W_le hS (rc (offL a)) 1
  have w2 := W_le hS (rc (offL a)) 2
  have w3 := W_le hS (rc (offL a)) 3
  have q1 := h.q1
  have q2 := h.q2
  have q3 := h.q3
  have hq := h2.hq
  have hx := h2.hx
  have fG : ∀ r p : Rat, Ab r 1 → Ab (p - (r - rv .f32 x2 * r)) (301 / 100 * uu) → -1025 < 1024 * (p - rv .f32 x2) ∧ 1024 * (p - rv .f32 x2) ≤ 3077 := fun r p hr hp => by
    obtain ⟨u1, u2⟩ := bx
    obtain ⟨v1, v2⟩ := hr
    obtain ⟨t1, t2⟩ := hp
    have m1 := Rat.mul_nonneg (show 0 ≤ 1 - rv .f32 x2 by grind) (show 0 ≤ 1 + r by grind)
    have m2 := Rat.mul_nonneg (show 0 ≤ 1 + rv .f32 x2 by grind) (show 0 ≤ 1 + r by grind)
    unfold uu at *
    constructor <;> grind
  have fA : ∀ g A : Rat, -1025 < 1024 * g ∧ 1024 * g ≤ 3077 → (A = g ∨ A = -g) → A ≤ 301 / 100 := fun g A hg hA => by
    rcases hA with rfl | rfl <;> grind
  have k1 : rv .f32 (likR a 3) - rv .f32 su ≤ 1 - rv .f32 bs := by
    obtain ⟨A, hA, hA2⟩ := abs_ex (rv .f32 p - rv .f32 x2)
    have hg := fG _ _ b1 hp
    have hF := form_own hS h0 hg.1 hg.2 hA hA2
    unfold Form wS vF at hF
    exact below_ge hD e0 e1 e2 e3 w0 w1 w2 w3 q1 q2 q3 b1 b2 bx hq hx hp hb hs hA (fA _ _ hg hA2) hF
  have k2 : -rv .f32 (likR a 3) - -rv .f32 su ≤ 1 - rv .f32 bs := by
    obtain ⟨A, hA, hA2⟩ := abs_ex (-rv .f32 p - rv .f32 x2)
    have hp' : Ab (-rv .f32 p - (-rv .f32 (likR a 1) - rv .f32 x2 * -rv .f32 (likR a 1))) (301 / 100 * uu) := hp.neg.eq (by grind)
    have hg := fG _ _ b1.neg hp'
    have hF := form_alt hS h0 hg.1 hg.2 hA hA2
    unfold Form at hF
    rw [wS_alt] at hF
    unfold wS vF at hF
    rw [alt_dk, alt_dk, alt_dk, alt_dk, if_pos (by decide), if_neg (by decide), if_pos (by decide), if_neg (by decide)] at hF
    exact below_ge (D1 := -dk (rc (offL a)) a.length 1) (D3 := -dk (rc (offL a)) a.length 3) (E1 := -rv .f32 (dlF (offL a) 1)) (E3 := -rv .f32 (dlF (offL a) 3)) hD e0 (e1.neg.eq (by grind)) e2 (e3.neg.eq (by grind)) w0 w1 w2 w3 (q1.neg.eq (by grind)) q2 (q3.neg.eq (by grind)) b1.neg b2 bx (hq.eq (by grind)) hx hp' (hb.eq (by grind)) (hs.neg.eq (by grind)) hA (fA _ _ hg hA2) hF
  have bsu : Ab (rv .f32 su) 4 := by
    have := ((bp.mul b2).add (bx.mul b1)).add hs
    refine (this.eq (by grind)).mono ?_
    unfold uu; grind
  have bbs : Ab (rv .f32 bs) 4 := by
    have := ((bp.mul b1).add (bx.mul b2)).add hb
    refine (this.eq (by grind)).mono ?_
    unfold uu; grind
  have b3 : Ab (rv .f32 (likR a 3)) 9 := by
    obtain ⟨u1, u2⟩ := bsu
    obtain ⟨v1, v2⟩ := bbs
    constructor <;> grind
  obtain ⟨fU, _⟩ := subB2 (M := 20) f3 fs ((b3.sub bsu).mono (by grind)) (by decide +kernel) (by decide +kernel)
  obtain ⟨fB, _⟩ := subB2 (M := 20) fnt1 fb (((show Ab (rv .f32 1065353216) 1 by rw [rv1]; constructor <;> grind).sub bbs).mono (by grind)) (by decide +kernel) (by decide +kernel)
  have hbe := eql0 fB hbe
  obtain ⟨s1, s2⟩ := sub_le_sub f3 fs fnt1 fb fU fB
  rw [rv1] at s1 s2
  have s1 := s1 k1
  have s2 := s2 (by grind)
  have hB0 : 0 < rv .f32 (fop .sub .f32 1065353216 bs) := by grind
  exact quo_ab fU fB hB0 ⟨s1, by grind⟩

end Go.Proofs.Ytpdnjcblkjjegaa

set_option linter.unusedVariables false
set_option linter.unusedSimpArgs false
set_option maxRecDepth 20000
set_option maxHeartbeats 8000000
namespace Go.Proofs.Ytpdnjcblkjjegaa
open Go.Aw
attribute [local irreducible] QRun LexD AWp TCall TMut fop fint fcmp fconv

theorem specOwn_c (a : List Nat) (m : Int) (ha : a.length ≤ 9223372036854775807) : TCall Try.prog 22 [.fl a, .v (.int .i64 m)] (opR (ownF a m)) (opH (ownF a m)) := by
  have bad : ¬ (isSer a = true ∧ inR m 0 6 = true ∧ (own0F a m).ok = true) → ownF a m = ⟨[], 0, false⟩ := fun hc => by
    unfold ownF; rw [if_neg]; intro hk; apply hc
    simp only [Bool.and_eq_true] at hk
    exact ⟨own0F_ser hk.2, hk⟩
  refine tcall_of Try.func22 rfl (by kernel_rfl) (Nat.le_of_ble_eq_true rfl) rfl ?_
  simp only [argsL, argAV, argCs, argS]
  refine V1 ?_
  (first | refine c_q (specSer_c a ha) (h := ?_) | refine z_q (specSer_c a ha) (h := ?_))
  refine V1 ?_
  refine lex_if rfl rfl rfl (fun h1 => ?_) (fun h1 => ?_)
  · simp only [Bool.not_eq_true'] at h1
    refine V5 ?_
    refine awp_ifT rfl rfl ?_
    refine V5 ?_
    rw [bad (fun hc => by first | (simp only [h1, Bool.false_eq_true, false_and, and_false] at hc; done) | omega)]
    (refine u_1 ?_; (repeat' (first | exact RetRelL.nil | refine RetRel.nil rfl ?_ | refine RetRelL.cons ?_ ?_ | refine rr_tup ?_ | refine rr_agg ?_ | refine rr_own rfl ?_ | exact RetRel.arg | exact RetRel.argc | refine rr_t ?_)); all_goals rfl)
  simp only [Bool.not_eq_false'] at h1
  refine V1 ?_
  (first | refine c_q (l00In_c _ _ _) (h := ?_) | refine z_q (l00In_c _ _ _) (h := ?_))
  refine V1 ?_
  refine awp_if rfl (fun h2 => ?_) (fun h2 => ?_)
  · simp only [Bool.not_eq_true'] at h2
    refine V5 ?_
    rw [bad (fun hc => by first | (simp only [h2, Bool.false_eq_true, false_and, and_false] at hc; done) | omega)]
    (refine u_1 ?_; (repeat' (first | exact RetRelL.nil | refine RetRel.nil rfl ?_ | refine RetRelL.cons ?_ ?_ | refine rr_tup ?_ | refine rr_agg ?_ | refine rr_own rfl ?_ | exact RetRel.arg | exact RetRel.argc | refine rr_t ?_)); all_goals rfl)
  simp only [Bool.not_eq_false'] at h2
  have hl : a.length ≤ 1048576 := by have := isSer_len h1; omega
  refine V1 ?_
  (first | refine c_s (l05Past_c a m hl) (h := ?_) | refine z_s (l05Past_c a m hl) (h := ?_))
  refine V1 ?_
  refine awp_if rfl (fun h3 => ?_) (fun h3 => ?_)
  · simp only [Bool.not_eq_true'] at h3
    refine V1 ?_
    rw [bad (fun hc => by rw [h3] at hc; simp at hc)]
    (refine u_1 ?_; (repeat' (first | exact RetRelL.nil | refine RetRel.nil rfl ?_ | refine RetRelL.cons ?_ ?_ | refine rr_tup ?_ | refine rr_agg ?_ | refine rr_own rfl ?_ | exact RetRel.arg | exact RetRel.argc | refine rr_t ?_)); all_goals rfl)
  simp only [Bool.not_eq_false'] at h3
  refine V1 ?_
  rw [show ownF a m = ⟨(own0F a m).p, (own0F a m).s, true⟩ by unfold ownF; rw [h2, h3]; simp only [Bool.and_self, if_true]; rw [← h3]]
  refine ret_ok tyOk (by first | exact .inr rfl | exact .inl rfl) (pi1 (cid 21 0)) rfl (by repeat (first | exact .nil | (apply ResAl.cons; first | exact .tmp | exact .cell rfl rfl rfl rfl rfl rfl | exact .cell1 rfl rfl rfl rfl rfl))) ?_ ⟨rfl, trivial⟩ (injO_1 _ _ _)
  repeat' (first | exact RetRelL.nil | refine RetRel.nil rfl ?_ | refine RetRelL.cons ?_ ?_ | refine rr_tup ?_ | refine rr_agg ?_ | refine rr_own rfl ?_ | exact RetRel.arg | exact RetRel.argc | refine rr_t ?_)
  all_goals rfl
theorem implOwn_c (a : List Nat) (m : Int) (hl : a.length ≤ 1048576) : TCall Try.prog 23 [.fl a, .v (.int .i64 m)] (opR (ownF a m)) (opH (ownF a m)) := by
  have bad0 : ¬ (inR m 0 6 = true ∧ (own0F a m).ok = true) → ownF a m = ⟨[], 0, false⟩ := fun hc => by
    unfold ownF; rw [if_neg]; intro hk; apply hc
    simpa only [Bool.and_eq_true] using hk
  refine tcall_of Try.func23 rfl (by kernel_rfl) (Nat.le_of_ble_eq_true rfl) rfl ?_
  simp only [argsL, argAV, argCs, argS]
  refine V1 ?_
  (first | refine c_q (within_c _ _ _) (h := ?_) | refine z_q (within_c _ _ _) (h := ?_))
  refine V1 ?_
  refine awp_if rfl (fun h0 => ?_) (fun h0 => ?_)
  · simp only [Bool.not_eq_true'] at h0
    refine V1 ?_
    rw [bad0 (fun hc => by rw [h0] at hc; simp at hc)]
    (refine u_1 ?_; (repeat' (first | exact RetRelL.nil | refine RetRel.nil rfl ?_ | refine RetRelL.cons ?_ ?_ | refine rr_tup ?_ | refine rr_agg ?_ | refine rr_own rfl ?_ | exact RetRel.arg | exact RetRel.argc | refine rr_t ?_)); all_goals rfl)
  simp only [Bool.not_eq_false'] at h0
  refine V1 ?_
  (first | refine c_s (implPart_c a m hl) (h := ?_) | refine z_s (implPart_c a m hl) (h := ?_))
  refine V1 ?_
  refine awp_if rfl (fun h1 => ?_) (fun h1 => ?_)
  · simp only [Bool.not_eq_true'] at h1
    refine V1 ?_
    rw [bad0 (fun hc => by have := hc.2; unfold own0F at this; rw [h1] at this; simp at this)]
    (refine u_1 ?_; (repeat' (first | exact RetRelL.nil | refine RetRel.nil rfl ?_ | refine RetRelL.cons ?_ ?_ | refine rr_tup ?_ | refine rr_agg ?_ | refine rr_own rfl ?_ | exact RetRel.arg | exact RetRel.argc | refine rr_t ?_)); all_goals rfl)
  simp only [Bool.not_eq_false'] at h1
  have hq := partF_le a m
  have hF : own0F a m = ⟨opP (partF a m).1 (partF a m).1.length, opS a (partF a m).1 (partF a m).1.length, (opP (partF a m).1 (partF a m).1.length).all fin && fin (opS a (partF a m).1 (partF a m).1.length)⟩ := by unfold own0F; rw [h1]; rfl
  generalize hr : (partF a m).1 = q at *
  have hz0 : (offL a).length = a.length := lessL_len _ _
  have bad : ¬ ((opP q q.length).all fin = true ∧ fin (opS a q q.length) = true) → ownF a m = ⟨[], 0, false⟩ := fun hc => bad0 fun hk => hc (by
    have := hk.2; rw [hF] at this; simpa only [Bool.and_eq_true] using this)
  have hS : sqF a = dlF (offL a) 0 := (dl_zero (offL a)).symm
  refine V5 ?_
  (first | refine c_q (squares_c a hl) (h := ?_) | refine z_q (squares_c a hl) (h := ?_))
  rw [hS]
  refine V1 ?_
  refine awp_loop (X := Nat) (fun k => k ≤ q.length) (fun k => [(9, .t (.f .f32 (opS a q k))), (10, .own 32 0 k), (33, .own (cid 21 0) 0 q.length), (34, .t (.v (.int .i64 (q.length : Nat)))), (35, .t (.v (.int .i64 k)))]) (fun k => [(cid 21 0, .sl 30 (.fl q)), (32, .sl 30 (.fl (opP q k)))]) (fun k => q.length - k)
    0 ⟨by omega, fun i => i, ⟨rfl, rfl, rfl, rfl, rfl, trivial⟩, ⟨rfl, rfl, trivial⟩, injOn_id _⟩ (fun k hk => ?_)
  have hz1 := opP_len q k
  refine V3 ?_
  refine awp_if rfl (fun h => ?_) (fun h => ?_)
  · simp only [icmp, decide_eq_true_eq] at h
    have hA := plNx_len (opP q k) (q.getD k 0) k
    refine V1 ?_
    (first | (refine c_s (cloneF_c (opP q k) (by omega)) (h := ?_)) | (refine z_s (cloneF_c (opP q k) (by omega)) (h := ?_)))
    refine V1 ?_
    refine awp_loop (X := Nat) (fun j => j ≤ k) (fun j => [(9, .t (.f .f32 (opS a q k))), (10, .own 32 0 k), (12, .t (.f .f32 (q.getD k 0))), (13, .own (cid 40 0) 0 k), (33, .own (cid 21 0) 0 q.length), (34, .t (.v (.int .i64 (q.length : Nat)))), (35, .t (.v (.int .i64 k))), (42, .t (.v (.int .i64 k))), (43, .t (.v (.int .i64 j)))]) (fun j => [(cid 21 0, .sl 30 (.fl q)), (32, .sl 30 (.fl ((plNx (opP q k) (q.getD k 0) k).take j ++ (opP q k).drop j))), (cid 40 0, .sl 30 (.fl (opP q k)))]) (fun j => k - j)
      0 ⟨by omega, fun i => i, ⟨rfl, rfl, fE (by simp only [Nat.zero_add]), own_eq hz1, rfl, rfl, rfl, rfl, rfl, trivial⟩, ⟨rfl, rfl, rfl, trivial⟩, injOn_id _⟩ (fun j hj => ?_)
    have hz3 : ((plNx (opP q k) (q.getD k 0) k).take j ++ (opP q k).drop j).length = k := by rw [List.length_append, List.length_take, List.length_drop, hA, hz1]; omega
    refine V3 ?_
    refine awp_if rfl (fun h4 => ?_) (fun h4 => ?_)
    · simp only [icmp, decide_eq_true_eq] at h4
      refine V1 ?_
      (first | (refine w_r (q_idx_own (k - j - 1) tyOk rfl rfl rfl rfl rfl rfl rfl (by omega) (by first | omega | (simp only [T.len]; omega) | assumption)) (h := ?_)) | (refine y_r (q_idx_own (k - j - 1) tyOk rfl rfl rfl rfl rfl rfl rfl (by omega) (by first | omega | (simp only [T.len]; omega) | assumption)) (h := ?_)))
      refine V1 ?_
      exact ⟨j + 1, by omega, by omega, fun i => i, ⟨rfl, rfl, rfl, rfl, rfl, rfl, rfl, rfl, rfl, trivial⟩, ⟨rfl, sl_eq (congrArg T.fl (by
        simp only [Nat.zero_add]
        rw [set_mix ((plNx_len _ _ _).trans hz1.symm) (by omega) (by simp only [plNx, getD_mapR _ (show j < k by omega)])])), rfl, trivial⟩, injOn_id _⟩
    simp only [icmp, decide_eq_false_iff_not] at h4
    obtain rfl : j = k := by omega
    have hmx : (plNx (opP q j) (q.getD j 0) j).take j ++ (opP q j).drop j = plNx (opP q j) (q.getD j 0) j := by
      have := mix_all (A := plNx (opP q j) (q.getD j 0) j) (P := opP q j) (by omega)
      rwa [hz1] at this
    rw [hmx] at hz3
    rw [hmx]
    refine V1 ?_
    (first | refine a_s (hn := by exact hz3) (h := ?_) | refine b_s (hn := by exact hz3) (h := ?_))
    refine V1 ?_
    exact ⟨j + 1, by omega, by omega, fun i => i, ⟨rfl, own_eq (by simp only [T.app, T.len, List.length_append, hz3]; rfl), rfl, rfl, rfl, trivial⟩, ⟨rfl, rfl, trivial⟩, injOn_id _⟩
  · simp only [icmp, decide_eq_false_iff_not] at h
    obtain rfl : k = q.length := by omega
    refine V1 ?_
    (first | (refine c_q (areFinite_c (opP q q.length) (by omega)) (h := ?_)) | (refine z_q (areFinite_c (opP q q.length) (by omega)) (h := ?_)))
    refine V1 ?_
    refine lex_if rfl rfl rfl (fun h5 => ?_) (fun h5 => ?_)
    · simp only [Bool.not_eq_true'] at h5
      refine V5 ?_
      refine awp_ifT rfl rfl ?_
      refine V5 ?_
      rw [bad (fun hc => by first | (simp only [h5, Bool.false_eq_true, false_and, and_false] at hc; done) | omega)]
      (refine u_1 ?_; (repeat' (first | exact RetRelL.nil | refine RetRel.nil rfl ?_ | refine RetRelL.cons ?_ ?_ | refine rr_tup ?_ | refine rr_agg ?_ | refine rr_own rfl ?_ | exact RetRel.arg | exact RetRel.argc | refine rr_t ?_)); all_goals rfl)
    simp only [Bool.not_eq_false'] at h5
    refine V1 ?_
    (first | (refine c_q (isFinite_c (opS a q q.length)) (h := ?_)) | (refine z_q (isFinite_c (opS a q q.length)) (h := ?_)))
    refine V1 ?_
    refine awp_if rfl (fun h6 => ?_) (fun h6 => ?_)
    · simp only [Bool.not_eq_true'] at h6
      refine V5 ?_
      rw [bad (fun hc => by first | (simp only [h6, Bool.false_eq_true, false_and, and_false] at hc; done) | omega)]
      (refine u_1 ?_; (repeat' (first | exact RetRelL.nil | refine RetRel.nil rfl ?_ | refine RetRelL.cons ?_ ?_ | refine rr_tup ?_ | refine rr_agg ?_ | refine rr_own rfl ?_ | exact RetRel.arg | exact RetRel.argc | refine rr_t ?_)); all_goals rfl)
    simp only [Bool.not_eq_false'] at h6
    refine V1 ?_
    rw [show ownF a m = ⟨opP q q.length, opS a q q.length, true⟩ by unfold ownF; rw [h0, hF, h5, h6]; rfl]
    refine ret_ok tyOk (by first | exact .inr rfl | exact .inl rfl) (pi1 32) rfl (by repeat (first | exact .nil | (apply ResAl.cons; first | exact .tmp | exact .cell rfl rfl rfl rfl rfl rfl | exact .cell1 rfl rfl rfl rfl rfl))) ?_ ⟨rfl, trivial⟩ (injO_1 _ _ _)
    repeat' (first | exact RetRelL.nil | refine RetRel.nil rfl ?_ | refine RetRelL.cons ?_ ?_ | refine rr_tup ?_ | refine rr_agg ?_ | refine rr_own rfl ?_ | exact RetRel.arg | exact RetRel.argc | refine rr_t ?_)
    all_goals first | rfl | exact hz1.symm
end Go.Proofs.Ytpdnjcblkjjegaa

