import Derived.Test.YtpdnjcblkjjegaaVAwJ
set_option linter.unusedVariables false
set_option linter.unusedSimpArgs false
namespace Go.Proofs.Ytpdnjcblkjjegaa
open Go.Aw

/-! ### quadratic forms of neighbours: a checker in whole numbers -/
structure Q5 where
  (a00 a01 a02 a03 a04 a11 a12 a13 a14 a22 a23 a24 a33 a34 a44 : Int)
structure Q4 where
  (a00 a01 a02 a03 a11 a12 a13 a22 a23 a33 : Int)
def Q5.at (q : Q5) (x0 x1 x2 x3 x4 : Rat) : Rat := (q.a00 : Rat) * (x0 * x0) + 2 * (q.a01 : Rat) * (x0 * x1) + 2 * (q.a02 : Rat) * (x0 * x2) + 2 * (q.a03 : Rat) * (x0 * x3) + 2 * (q.a04 : Rat) * (x0 * x4) + (q.a11 : Rat) * (x1 * x1) + 2 * (q.a12 : Rat) * (x1 * x2) + 2 * (q.a13 : Rat) * (x1 * x3) + 2 * (q.a14 : Rat) * (x1 * x4) + (q.a22 : Rat) * (x2 * x2) + 2 * (q.a23 : Rat) * (x2 * x3) + 2 * (q.a24 : Rat) * (x2 * x4) + (q.a33 : Rat) * (x3 * x3) + 2 * (q.a34 : Rat) * (x3 * x4) + (q.a44 : Rat) * (x4 * x4)
def Q4.at (q : Q4) (x0 x1 x2 x3 : Rat) : Rat := (q.a00 : Rat) * (x0 * x0) + 2 * (q.a01 : Rat) * (x0 * x1) + 2 * (q.a02 : Rat) * (x0 * x2) + 2 * (q.a03 : Rat) * (x0 * x3) + (q.a11 : Rat) * (x1 * x1) + 2 * (q.a12 : Rat) * (x1 * x2) + 2 * (q.a13 : Rat) * (x1 * x3) + (q.a22 : Rat) * (x2 * x2) + 2 * (q.a23 : Rat) * (x2 * x3) + (q.a33 : Rat) * (x3 * x3)
theorem form_id (a b0 b1 b2 b3 c00 c01 c02 c03 c11 c12 c13 c22 c23 c33 n00 n01 n02 n03 n11 n12 n13 n22 n23 n33 x0 x1 x2 x3 x4 : Rat) :
    a * ((a * (x4 * x4) + 2 * b0 * (x0 * x4) + 2 * b1 * (x1 * x4) + 2 * b2 * (x2 * x4) + 2 * b3 * (x3 * x4) + (c00 * (x0 * x0) + 2 * c01 * (x0 * x1) + 2 * c02 * (x0 * x2) + 2 * c03 * (x0 * x3) + c11 * (x1 * x1) + 2 * c12 * (x1 * x2) + 2 * c13 * (x1 * x3) + c22 * (x2 * x2) + 2 * c23 * (x2 * x3) + c33 * (x3 * x3))) - (n00 * (x0 * x0) + 2 * n01 * (x0 * x1) + 2 * n02 * (x0 * x2) + 2 * n03 * (x0 * x3) + n11 * (x1 * x1) + 2 * n12 * (x1 * x2) + 2 * n13 * (x1 * x3) + n22 * (x2 * x2) + 2 * n23 * (x2 * x3) + n33 * (x3 * x3))) =
    (a * x4 + b0 * x0 + b1 * x1 + b2 * x2 + b3 * x3) * (a * x4 + b0 * x0 + b1 * x1 + b2 * x2 + b3 * x3) + ((a * c00 - b0 * b0 - a * n00) * (x0 * x0) + 2 * (a * c01 - b0 * b1 - a * n01) * (x0 * x1) + 2 * (a * c02 - b0 * b2 - a * n02) * (x0 * x2) + 2 * (a * c03 - b0 * b3 - a * n03) * (x0 * x3) + (a * c11 - b1 * b1 - a * n11) * (x1 * x1) + 2 * (a * c12 - b1 * b2 - a * n12) * (x1 * x2) + 2 * (a * c13 - b1 * b3 - a * n13) * (x1 * x3) + (a * c22 - b2 * b2 - a * n22) * (x2 * x2) + 2 * (a * c23 - b2 * b3 - a * n23) * (x2 * x3) + (a * c33 - b3 * b3 - a * n33) * (x3 * x3)) := by
  grind
theorem mulself_nn (x : Rat) : 0 ≤ x * x := by
  rcases Rat.le_total (a := 0) (b := x) with h | h
  · exact Rat.mul_nonneg h h
  · have := Rat.mul_nonneg (show 0 ≤ -x by grind) (show 0 ≤ -x by grind)
    grind
theorem cross_nn {r s x y : Rat} (h1 : r ≤ s) (h2 : -s ≤ r) : 0 ≤ s * (x * x) + s * (y * y) + 2 * r * (x * y) := by
  have e : s * (x * x) + s * (y * y) + 2 * r * (x * y) = (s + r) * ((x + y) * (x + y)) / 2 + (s - r) * ((x - y) * (x - y)) / 2 := by grind
  rw [e]
  have p1 := Rat.mul_nonneg (show 0 ≤ s + r by grind) (mulself_nn (x + y))
  have p2 := Rat.mul_nonneg (show 0 ≤ s - r by grind) (mulself_nn (x - y))
  grind
theorem dom_nn {r00 r01 r02 r03 r11 r12 r13 r22 r23 r33 s01 s02 s03 s12 s13 s23 : Rat} (p01 : r01 ≤ s01) (m01 : -s01 ≤ r01) (p02 : r02 ≤ s02) (m02 : -s02 ≤ r02) (p03 : r03 ≤ s03) (m03 : -s03 ≤ r03) (p12 : r12 ≤ s12) (m12 : -s12 ≤ r12) (p13 : r13 ≤ s13) (m13 : -s13 ≤ r13) (p23 : r23 ≤ s23) (m23 : -s23 ≤ r23) (d0 : s01 + s02 + s03 ≤ r00) (d1 : s01 + s12 + s13 ≤ r11) (d2 : s02 + s12 + s23 ≤ r22) (d3 : s03 + s13 + s23 ≤ r33) (x0 x1 x2 x3 : Rat) : 0 ≤ r00 * (x0 * x0) + 2 * r01 * (x0 * x1) + 2 * r02 * (x0 * x2) + 2 * r03 * (x0 * x3) + r11 * (x1 * x1) + 2 * r12 * (x1 * x2) + 2 * r13 * (x1 * x3) + r22 * (x2 * x2) + 2 * r23 * (x2 * x3) + r33 * (x3 * x3) := by
  have q01 := cross_nn (x := x0) (y := x1) p01 m01
  have q02 := cross_nn (x := x0) (y := x2) p02 m02
  have q03 := cross_nn (x := x0) (y := x3) p03 m03
  have q12 := cross_nn (x := x1) (y := x2) p12 m12
  have q13 := cross_nn (x := x1) (y := x3) p13 m13
  have q23 := cross_nn (x := x2) (y := x3) p23 m23
  have e0 := Rat.mul_le_mul_of_nonneg_right d0 (mulself_nn x0)
  have e1 := Rat.mul_le_mul_of_nonneg_right d1 (mulself_nn x1)
  have e2 := Rat.mul_le_mul_of_nonneg_right d2 (mulself_nn x2)
  have e3 := Rat.mul_le_mul_of_nonneg_right d3 (mulself_nn x3)
  grind
def Q4.dom (r : Q4) : Bool := decide ((r.a01.natAbs : Int) + (r.a02.natAbs : Int) + (r.a03.natAbs : Int) ≤ r.a00) && decide ((r.a01.natAbs : Int) + (r.a12.natAbs : Int) + (r.a13.natAbs : Int) ≤ r.a11) && decide ((r.a02.natAbs : Int) + (r.a12.natAbs : Int) + (r.a23.natAbs : Int) ≤ r.a22) && decide ((r.a03.natAbs : Int) + (r.a13.natAbs : Int) + (r.a23.natAbs : Int) ≤ r.a33)
theorem Q4.dom_at {r : Q4} (h : r.dom = true) (x0 x1 x2 x3 : Rat) : 0 ≤ r.at x0 x1 x2 x3 := by
  unfold Q4.dom at h
  simp only [Bool.and_eq_true, decide_eq_true_eq] at h
  obtain ⟨⟨⟨h0, h1⟩, h2⟩, h3⟩ := h
  have hp : ∀ z : Int, (z : Rat) ≤ ((z.natAbs : Int) : Rat) := fun z => by exact_mod_cast (show z ≤ (z.natAbs : Int) by omega)
  have hm : ∀ z : Int, -((z.natAbs : Int) : Rat) ≤ (z : Rat) := fun z => by exact_mod_cast (show -(z.natAbs : Int) ≤ z by omega)
  have g0 : ((r.a01.natAbs : Int) : Rat) + ((r.a02.natAbs : Int) : Rat) + ((r.a03.natAbs : Int) : Rat) ≤ (r.a00 : Rat) := by exact_mod_cast h0
  have g1 : ((r.a01.natAbs : Int) : Rat) + ((r.a12.natAbs : Int) : Rat) + ((r.a13.natAbs : Int) : Rat) ≤ (r.a11 : Rat) := by exact_mod_cast h1
  have g2 : ((r.a02.natAbs : Int) : Rat) + ((r.a12.natAbs : Int) : Rat) + ((r.a23.natAbs : Int) : Rat) ≤ (r.a22 : Rat) := by exact_mod_cast h2
  have g3 : ((r.a03.natAbs : Int) : Rat) + ((r.a13.natAbs : Int) : Rat) + ((r.a23.natAbs : Int) : Rat) ≤ (r.a33 : Rat) := by exact_mod_cast h3
  unfold Q4.at
  exact dom_nn (hp _) (hm _) (hp _) (hm _) (hp _) (hm _) (hp _) (hm _) (hp _) (hm _) (hp _) (hm _) g0 g1 g2 g3 x0 x1 x2 x3
def pivQ (v : Q4) (f : Q5) : Int := v.a33 + f.a44
def nexQ (v : Q4) (f : Q5) : Q4 := ⟨(pivQ v f * (f.a00) - (f.a04) * (f.a04)) / pivQ v f - 4, (pivQ v f * (f.a01) - (f.a04) * (f.a14 + v.a03)) / pivQ v f, (pivQ v f * (f.a02) - (f.a04) * (f.a24 + v.a13)) / pivQ v f, (pivQ v f * (f.a03) - (f.a04) * (f.a34 + v.a23)) / pivQ v f, (pivQ v f * (f.a11 + v.a00) - (f.a14 + v.a03) * (f.a14 + v.a03)) / pivQ v f - 4, (pivQ v f * (f.a12 + v.a01) - (f.a14 + v.a03) * (f.a24 + v.a13)) / pivQ v f, (pivQ v f * (f.a13 + v.a02) - (f.a14 + v.a03) * (f.a34 + v.a23)) / pivQ v f, (pivQ v f * (f.a22 + v.a11) - (f.a24 + v.a13) * (f.a24 + v.a13)) / pivQ v f - 4, (pivQ v f * (f.a23 + v.a12) - (f.a24 + v.a13) * (f.a34 + v.a23)) / pivQ v f, (pivQ v f * (f.a33 + v.a22) - (f.a34 + v.a23) * (f.a34 + v.a23)) / pivQ v f - 4⟩
def resQ (v : Q4) (f : Q5) (n : Q4) : Q4 := ⟨pivQ v f * (f.a00) - (f.a04) * (f.a04) - pivQ v f * n.a00, pivQ v f * (f.a01) - (f.a04) * (f.a14 + v.a03) - pivQ v f * n.a01, pivQ v f * (f.a02) - (f.a04) * (f.a24 + v.a13) - pivQ v f * n.a02, pivQ v f * (f.a03) - (f.a04) * (f.a34 + v.a23) - pivQ v f * n.a03, pivQ v f * (f.a11 + v.a00) - (f.a14 + v.a03) * (f.a14 + v.a03) - pivQ v f * n.a11, pivQ v f * (f.a12 + v.a01) - (f.a14 + v.a03) * (f.a24 + v.a13) - pivQ v f * n.a12, pivQ v f * (f.a13 + v.a02) - (f.a14 + v.a03) * (f.a34 + v.a23) - pivQ v f * n.a13, pivQ v f * (f.a22 + v.a11) - (f.a24 + v.a13) * (f.a24 + v.a13) - pivQ v f * n.a22, pivQ v f * (f.a23 + v.a12) - (f.a24 + v.a13) * (f.a34 + v.a23) - pivQ v f * n.a23, pivQ v f * (f.a33 + v.a22) - (f.a34 + v.a23) * (f.a34 + v.a23) - pivQ v f * n.a33⟩
theorem step_ge {v : Q4} {f : Q5} {n : Q4} (ha : 0 < pivQ v f) (hd : (resQ v f n).dom = true) (x0 x1 x2 x3 x4 : Rat) : n.at x0 x1 x2 x3 ≤ v.at x1 x2 x3 x4 + f.at x0 x1 x2 x3 x4 := by
  have h1 := Q4.dom_at hd x0 x1 x2 x3
  have haR : (0 : Rat) < (pivQ v f : Rat) := by exact_mod_cast ha
  have h2 := form_id (pivQ v f : Rat) ((f.a04 : Int) : Rat) ((f.a14 + v.a03 : Int) : Rat) ((f.a24 + v.a13 : Int) : Rat) ((f.a34 + v.a23 : Int) : Rat) ((f.a00 : Int) : Rat) ((f.a01 : Int) : Rat) ((f.a02 : Int) : Rat) ((f.a03 : Int) : Rat) ((f.a11 + v.a00 : Int) : Rat) ((f.a12 + v.a01 : Int) : Rat) ((f.a13 + v.a02 : Int) : Rat) ((f.a22 + v.a11 : Int) : Rat) ((f.a23 + v.a12 : Int) : Rat) ((f.a33 + v.a22 : Int) : Rat) (n.a00 : Rat) (n.a01 : Rat) (n.a02 : Rat) (n.a03 : Rat) (n.a11 : Rat) (n.a12 : Rat) (n.a13 : Rat) (n.a22 : Rat) (n.a23 : Rat) (n.a33 : Rat) x0 x1 x2 x3 x4
  have h3 : (resQ v f n).at x0 x1 x2 x3 = ((pivQ v f : Rat) * ((f.a00 : Int) : Rat) - ((f.a04 : Int) : Rat) * ((f.a04 : Int) : Rat) - (pivQ v f : Rat) * (n.a00 : Rat)) * (x0 * x0) + 2 * ((pivQ v f : Rat) * ((f.a01 : Int) : Rat) - ((f.a04 : Int) : Rat) * ((f.a14 + v.a03 : Int) : Rat) - (pivQ v f : Rat) * (n.a01 : Rat)) * (x0 * x1) + 2 * ((pivQ v f : Rat) * ((f.a02 : Int) : Rat) - ((f.a04 : Int) : Rat) * ((f.a24 + v.a13 : Int) : Rat) - (pivQ v f : Rat) * (n.a02 : Rat)) * (x0 * x2) + 2 * ((pivQ v f : Rat) * ((f.a03 : Int) : Rat) - ((f.a04 : Int) : Rat) * ((f.a34 + v.a23 : Int) : Rat) - (pivQ v f : Rat) * (n.a03 : Rat)) * (x0 * x3) + ((pivQ v f : Rat) * ((f.a11 + v.a00 : Int) : Rat) - ((f.a14 + v.a03 : Int) : Rat) * ((f.a14 + v.a03 : Int) : Rat) - (pivQ v f : Rat) * (n.a11 : Rat)) * (x1 * x1) + 2 * ((pivQ v f : Rat) * ((f.a12 + v.a01 : Int) : Rat) - ((f.a14 + v.a03 : Int) : Rat) * ((f.a24 + v.a13 : Int) : Rat) - (pivQ v f : Rat) * (n.a12 : Rat)) * (x1 * x2) + 2 * ((pivQ v f : Rat) * ((f.a13 + v.a02 : Int) : Rat) - ((f.a14 + v.a03 : Int) : Rat) * ((f.a34 + v.a23 : Int) : Rat) - (pivQ v f : Rat) * (n.a13 : Rat)) * (x1 * x3) + ((pivQ v f : Rat) * ((f.a22 + v.a11 : Int) : Rat) - ((f.a24 + v.a13 : Int) : Rat) * ((f.a24 + v.a13 : Int) : Rat) - (pivQ v f : Rat) * (n.a22 : Rat)) * (x2 * x2) + 2 * ((pivQ v f : Rat) * ((f.a23 + v.a12 : Int) : Rat) - ((f.a24 + v.a13 : Int) : Rat) * ((f.a34 + v.a23 : Int) : Rat) - (pivQ v f : Rat) * (n.a23 : Rat)) * (x2 * x3) + ((pivQ v f : Rat) * ((f.a33 + v.a22 : Int) : Rat) - ((f.a34 + v.a23 : Int) : Rat) * ((f.a34 + v.a23 : Int) : Rat) - (pivQ v f : Rat) * (n.a33 : Rat)) * (x3 * x3) := by
    unfold Q4.at resQ
    simp only [Rat.intCast_sub, Rat.intCast_mul]
  rw [← h3] at h2
  have h4 := mulself_nn ((pivQ v f : Rat) * x4 + ((f.a04 : Int) : Rat) * x0 + ((f.a14 + v.a03 : Int) : Rat) * x1 + ((f.a24 + v.a13 : Int) : Rat) * x2 + ((f.a34 + v.a23 : Int) : Rat) * x3)
  have h5 : v.at x1 x2 x3 x4 + f.at x0 x1 x2 x3 x4 = (pivQ v f : Rat) * (x4 * x4) + 2 * ((f.a04 : Int) : Rat) * (x0 * x4) + 2 * ((f.a14 + v.a03 : Int) : Rat) * (x1 * x4) + 2 * ((f.a24 + v.a13 : Int) : Rat) * (x2 * x4) + 2 * ((f.a34 + v.a23 : Int) : Rat) * (x3 * x4) + (((f.a00 : Int) : Rat) * (x0 * x0) + 2 * ((f.a01 : Int) : Rat) * (x0 * x1) + 2 * ((f.a02 : Int) : Rat) * (x0 * x2) + 2 * ((f.a03 : Int) : Rat) * (x0 * x3) + ((f.a11 + v.a00 : Int) : Rat) * (x1 * x1) + 2 * ((f.a12 + v.a01 : Int) : Rat) * (x1 * x2) + 2 * ((f.a13 + v.a02 : Int) : Rat) * (x1 * x3) + ((f.a22 + v.a11 : Int) : Rat) * (x2 * x2) + 2 * ((f.a23 + v.a12 : Int) : Rat) * (x2 * x3) + ((f.a33 + v.a22 : Int) : Rat) * (x3 * x3)) := by
    unfold Q4.at Q5.at pivQ
    simp only [Rat.intCast_add]
    grind
  rw [h5]
  have h6 : (pivQ v f : Rat) * 0 ≤ (pivQ v f : Rat) * (((pivQ v f : Rat) * (x4 * x4) + 2 * ((f.a04 : Int) : Rat) * (x0 * x4) + 2 * ((f.a14 + v.a03 : Int) : Rat) * (x1 * x4) + 2 * ((f.a24 + v.a13 : Int) : Rat) * (x2 * x4) + 2 * ((f.a34 + v.a23 : Int) : Rat) * (x3 * x4) + (((f.a00 : Int) : Rat) * (x0 * x0) + 2 * ((f.a01 : Int) : Rat) * (x0 * x1) + 2 * ((f.a02 : Int) : Rat) * (x0 * x2) + 2 * ((f.a03 : Int) : Rat) * (x0 * x3) + ((f.a11 + v.a00 : Int) : Rat) * (x1 * x1) + 2 * ((f.a12 + v.a01 : Int) : Rat) * (x1 * x2) + 2 * ((f.a13 + v.a02 : Int) : Rat) * (x1 * x3) + ((f.a22 + v.a11 : Int) : Rat) * (x2 * x2) + 2 * ((f.a23 + v.a12 : Int) : Rat) * (x2 * x3) + ((f.a33 + v.a22 : Int) : Rat) * (x3 * x3))) - n.at x0 x1 x2 x3) := by
    unfold Q4.at
    rw [h2]
    grind
  have h7 := Rat.le_of_mul_le_mul_left h6 haR
  grind
def runQ : List Q5 → Q4 → Bool
  | [], _ => true
  | f :: fs, v => decide (0 < pivQ v f) && (resQ v f (nexQ v f)).dom && runQ fs (nexQ v f)
def sumQ : List Q5 → (Nat → Rat) → Nat → Rat
  | [], _, _ => 0
  | f :: fs, y, j => f.at (y (j + 4)) (y (j + 3)) (y (j + 2)) (y (j + 1)) (y j) + sumQ fs y (j + 1)
theorem run_ge : ∀ {fs : List Q5} {v : Q4} (h : runQ fs v = true) (y : Nat → Rat) (j : Nat), ∃ w : Q4, w.at (y (j + fs.length + 3)) (y (j + fs.length + 2)) (y (j + fs.length + 1)) (y (j + fs.length)) ≤ v.at (y (j + 3)) (y (j + 2)) (y (j + 1)) (y j) + sumQ fs y j
  | [], v, _, y, j => ⟨v, by simp only [List.length_nil, Nat.add_zero]; unfold sumQ; grind⟩
  | f :: fs, v, h, y, j => by
    unfold runQ at h
    simp only [Bool.and_eq_true, decide_eq_true_eq] at h
    obtain ⟨w, hw⟩ := run_ge h.2 y (j + 1)
    refine ⟨w, ?_⟩
    have e : j + (f :: fs).length = j + 1 + fs.length := by simp; omega
    rw [e]
    have := step_ge h.1.1 h.1.2 (y (j + 4)) (y (j + 3)) (y (j + 2)) (y (j + 1)) (y j)
    unfold sumQ
    have e1 : j + 1 + 3 = j + 4 := by omega
    have e2 : j + 1 + 2 = j + 3 := by omega
    have e3 : j + 1 + 1 = j + 2 := by omega
    rw [e1, e2, e3] at hw
    grind
/-- a sum of local forms is not negative -/
theorem run_nn {fs : List Q5} {v : Q4} (h : runQ fs v = true) (y : Nat → Rat) (h0 : ∀ i, i < 4 → y i = 0) (h1 : ∀ i, i < 4 → y (fs.length + i) = 0) : 0 ≤ sumQ fs y 0 := by
  obtain ⟨w, hw⟩ := run_ge h y 0
  rw [Nat.zero_add] at hw
  have a0 := h0 0 (by omega)
  have a1 := h0 1 (by omega)
  have a2 := h0 2 (by omega)
  have a3 := h0 3 (by omega)
  have b0 := h1 0 (by omega)
  rw [Nat.add_zero] at b0
  have b1 := h1 1 (by omega)
  have b2 := h1 2 (by omega)
  have b3 := h1 3 (by omega)
  simp only [Nat.zero_add, Nat.add_zero, a0, a1, a2, a3, b0, b1, b2, b3] at hw
  unfold Q4.at at hw
  clear h0 h1 h a0 a1 a2 a3 b0 b1 b2 b3
  grind

end Go.Proofs.Ytpdnjcblkjjegaa

set_option linter.unusedVariables false
set_option linter.unusedSimpArgs false
namespace Go.Proofs.Ytpdnjcblkjjegaa
open Go.Aw

/-! ### sums -/
def sm (f : Nat → Rat) : Nat → Rat
  | 0 => 0
  | n + 1 => sm f n + f n
theorem sm_congr {f g : Nat → Rat} : ∀ {n : Nat}, (∀ i, i < n → f i = g i) → sm f n = sm g n
  | 0, _ => rfl
  | n + 1, h => by rw [sm, sm, sm_congr (fun i hi => h i (by omega)), h n (by omega)]
theorem sm_add (f g : Nat → Rat) : ∀ n, sm (fun i => f i + g i) n = sm f n + sm g n
  | 0 => by show (0 : Rat) = 0 + 0; grind
  | n + 1 => by rw [sm, sm, sm, sm_add f g n]; grind
theorem sm_mul (a : Rat) (f : Nat → Rat) : ∀ n, sm (fun i => a * f i) n = a * sm f n
  | 0 => by simp [sm]
  | n + 1 => by rw [sm, sm, sm_mul a f n]; grind
theorem sm_le {f g : Nat → Rat} : ∀ {n : Nat}, (∀ i, i < n → f i ≤ g i) → sm f n ≤ sm g n
  | 0, _ => by simp [sm]
  | n + 1, h => by
    have h1 := sm_le (n := n) (fun i hi => h i (by omega))
    have h2 := h n (by omega)
    rw [sm, sm]; grind
theorem sm_nn {f : Nat → Rat} {n : Nat} (h : ∀ i, i < n → 0 ≤ f i) : 0 ≤ sm f n := by
  have h1 := sm_le (f := fun _ => 0) (g := f) h
  have h2 : ∀ m, sm (fun _ => 0) m = 0 := fun m => by
    induction m with
    | zero => rfl
    | succ m ih => rw [sm, ih]; grind
  rw [h2] at h1; exact h1
theorem sm_split (H : Nat → Rat) (a : Nat) : ∀ L, sm H (a + L) = sm H a + sm (fun i => H (i + a)) L
  | 0 => by show sm H a = sm H a + 0; grind
  | L + 1 => by
    rw [← Nat.add_assoc, sm, sm, sm_split H a L, Nat.add_comm L a]; grind
theorem sm_zero {f : Nat → Rat} {n : Nat} (h : ∀ i, i < n → f i = 0) : sm f n = 0 := by
  rw [sm_congr (g := fun i => 0 * f i) (fun i hi => by rw [h i hi]; simp), sm_mul]; simp
theorem sm_neg (f : Nat → Rat) (n : Nat) : sm (fun i => - f i) n = - sm f n := by
  rw [sm_congr (g := fun i => (-1) * f i) (fun i _ => by grind), sm_mul]; grind

/-! ### delayed products -/
def dk (c : Nat → Rat) (n k : Nat) : Rat := sm (fun i => c i * c (i + k)) (n - k)
def yOf (c : Nat → Rat) (n : Nat) : Nat → Rat := fun i => if 4 ≤ i ∧ i < n + 4 then c (i - 4) else 0
theorem yOf_lo (c : Nat → Rat) (n : Nat) {i : Nat} (h : i < 4) : yOf c n i = 0 := by unfold yOf; rw [if_neg (by omega)]
theorem yOf_hi (c : Nat → Rat) (n : Nat) {i : Nat} (h : n + 4 ≤ i) : yOf c n i = 0 := by unfold yOf; rw [if_neg (by omega)]
theorem yOf_in (c : Nat → Rat) {n i : Nat} (h : i < n) : yOf c n (i + 4) = c i := by unfold yOf; rw [if_pos (by omega)]; congr 1
theorem y_prod (c : Nat → Rat) {n : Nat} (a k : Nat) (hk : a + k ≤ 4) (hn : 4 ≤ n) : sm (fun i => yOf c n (i + a) * yOf c n (i + a + k)) (n + 4) = dk c n k := by
  have h1 := sm_split (fun i => yOf c n i * yOf c n (i + k)) a (n + 4)
  have h2 : sm (fun i => yOf c n i * yOf c n (i + k)) a = 0 := sm_zero fun i hi => by rw [yOf_lo c n (show i < 4 by omega)]; simp
  have h3 := sm_split (fun i => yOf c n i * yOf c n (i + k)) 4 ((n - k) + (a + k))
  have h4 : sm (fun i => yOf c n i * yOf c n (i + k)) 4 = 0 := sm_zero fun i hi => by rw [yOf_lo c n (show i < 4 by omega)]; simp
  have h5 := sm_split (fun i => yOf c n (i + 4) * yOf c n (i + 4 + k)) (n - k) (a + k)
  have h6 : sm (fun i => yOf c n (i + (n - k) + 4) * yOf c n (i + (n - k) + 4 + k)) (a + k) = 0 := sm_zero fun i hi => by rw [yOf_hi c n (show n + 4 ≤ i + (n - k) + 4 + k by omega)]; simp
  have e : a + (n + 4) = 4 + ((n - k) + (a + k)) := by omega
  rw [e, h3, h4, h5, h2] at h1
  rw [h6] at h1
  have h7 : sm (fun i => yOf c n (i + 4) * yOf c n (i + 4 + k)) (n - k) = dk c n k := by
    unfold dk
    refine sm_congr fun i hi => ?_
    rw [yOf_in c (show i < n by omega), show i + 4 + k = i + k + 4 by omega, yOf_in c (show i + k < n by omega)]
  rw [h7] at h1
  grind
/-- a form summed over all neighbours -/
theorem form_sum (c : Nat → Rat) {n : Nat} (hn : 4 ≤ n) (f00 f01 f02 f03 f04 f11 f12 f13 f14 f22 f23 f24 f33 f34 f44 : Rat) : sm (fun m => f00 * (yOf c n (m + 4) * yOf c n (m + 4)) + 2 * f01 * (yOf c n (m + 4) * yOf c n (m + 3)) + 2 * f02 * (yOf c n (m + 4) * yOf c n (m + 2)) + 2 * f03 * (yOf c n (m + 4) * yOf c n (m + 1)) + 2 * f04 * (yOf c n (m + 4) * yOf c n m) + f11 * (yOf c n (m + 3) * yOf c n (m + 3)) + 2 * f12 * (yOf c n (m + 3) * yOf c n (m + 2)) + 2 * f13 * (yOf c n (m + 3) * yOf c n (m + 1)) + 2 * f14 * (yOf c n (m + 3) * yOf c n m) + f22 * (yOf c n (m + 2) * yOf c n (m + 2)) + 2 * f23 * (yOf c n (m + 2) * yOf c n (m + 1)) + 2 * f24 * (yOf c n (m + 2) * yOf c n m) + f33 * (yOf c n (m + 1) * yOf c n (m + 1)) + 2 * f34 * (yOf c n (m + 1) * yOf c n m) + f44 * (yOf c n m * yOf c n m)) (n + 4) = (f00 + f11 + f22 + f33 + f44) * dk c n 0 + 2 * (f01 + f12 + f23 + f34) * dk c n 1 + 2 * (f02 + f13 + f24) * dk c n 2 + 2 * (f03 + f14) * dk c n 3 + 2 * (f04) * dk c n 4 := by
  have h00 := y_prod c (n := n) 4 0 (by omega) hn
  have h01 := y_prod c (n := n) 3 1 (by omega) hn
  have h02 := y_prod c (n := n) 2 2 (by omega) hn
  have h03 := y_prod c (n := n) 1 3 (by omega) hn
  have h04 := y_prod c (n := n) 0 4 (by omega) hn
  have h11 := y_prod c (n := n) 3 0 (by omega) hn
  have h12 := y_prod c (n := n) 2 1 (by omega) hn
  have h13 := y_prod c (n := n) 1 2 (by omega) hn
  have h14 := y_prod c (n := n) 0 3 (by omega) hn
  have h22 := y_prod c (n := n) 2 0 (by omega) hn
  have h23 := y_prod c (n := n) 1 1 (by omega) hn
  have h24 := y_prod c (n := n) 0 2 (by omega) hn
  have h33 := y_prod c (n := n) 1 0 (by omega) hn
  have h34 := y_prod c (n := n) 0 1 (by omega) hn
  have h44 := y_prod c (n := n) 0 0 (by omega) hn
  simp only [Nat.add_assoc, Nat.reduceAdd, Nat.add_zero] at h00 h01 h02 h03 h04 h11 h12 h13 h14 h22 h23 h24 h33 h34 h44
  simp only [sm_add, sm_mul]
  rw [h00]
  rw [sm_congr (n := n + 4) (f := fun m => yOf c n (m + 4) * yOf c n (m + 3)) (g := fun m => yOf c n (m + 3) * yOf c n (m + 4)) (fun m _ => by grind), h01]
  rw [sm_congr (n := n + 4) (f := fun m => yOf c n (m + 4) * yOf c n (m + 2)) (g := fun m => yOf c n (m + 2) * yOf c n (m + 4)) (fun m _ => by grind), h02]
  rw [sm_congr (n := n + 4) (f := fun m => yOf c n (m + 4) * yOf c n (m + 1)) (g := fun m => yOf c n (m + 1) * yOf c n (m + 4)) (fun m _ => by grind), h03]
  rw [sm_congr (n := n + 4) (f := fun m => yOf c n (m + 4) * yOf c n m) (g := fun m => yOf c n m * yOf c n (m + 4)) (fun m _ => by grind), h04]
  rw [h11]
  rw [sm_congr (n := n + 4) (f := fun m => yOf c n (m + 3) * yOf c n (m + 2)) (g := fun m => yOf c n (m + 2) * yOf c n (m + 3)) (fun m _ => by grind), h12]
  rw [sm_congr (n := n + 4) (f := fun m => yOf c n (m + 3) * yOf c n (m + 1)) (g := fun m => yOf c n (m + 1) * yOf c n (m + 3)) (fun m _ => by grind), h13]
  rw [sm_congr (n := n + 4) (f := fun m => yOf c n (m + 3) * yOf c n m) (g := fun m => yOf c n m * yOf c n (m + 3)) (fun m _ => by grind), h14]
  rw [h22]
  rw [sm_congr (n := n + 4) (f := fun m => yOf c n (m + 2) * yOf c n (m + 1)) (g := fun m => yOf c n (m + 1) * yOf c n (m + 2)) (fun m _ => by grind), h23]
  rw [sm_congr (n := n + 4) (f := fun m => yOf c n (m + 2) * yOf c n m) (g := fun m => yOf c n m * yOf c n (m + 2)) (fun m _ => by grind), h24]
  rw [h33]
  rw [sm_congr (n := n + 4) (f := fun m => yOf c n (m + 1) * yOf c n m) (g := fun m => yOf c n m * yOf c n (m + 1)) (fun m _ => by grind), h34]
  rw [h44]
  grind

end Go.Proofs.Ytpdnjcblkjjegaa

set_option linter.unusedVariables false
set_option linter.unusedSimpArgs false
namespace Go.Proofs.Ytpdnjcblkjjegaa
open Go.Aw

def fsF (F : Nat → Q5) : Nat → Nat → List Q5
  | 0, _ => []
  | L + 1, j => F j :: fsF F L (j + 1)
theorem fsF_len (F : Nat → Q5) : ∀ L j, (fsF F L j).length = L
  | 0, _ => rfl
  | L + 1, j => by simp [fsF, fsF_len F L (j + 1)]
def atY (f : Q5) (y : Nat → Rat) (m : Nat) : Rat := f.at (y (m + 4)) (y (m + 3)) (y (m + 2)) (y (m + 1)) (y m)
theorem sm_left (f : Nat → Rat) (L : Nat) : sm f (L + 1) = f 0 + sm (fun i => f (i + 1)) L := by
  have := sm_split f 1 L
  rw [Nat.add_comm L 1, this]
  show 0 + f 0 + _ = _
  grind
theorem sumQ_sm (F : Nat → Q5) (y : Nat → Rat) : ∀ L j, sumQ (fsF F L j) y j = sm (fun i => atY (F (j + i)) y (j + i)) L
  | 0, _ => rfl
  | L + 1, j => by
    rw [fsF, sumQ, sumQ_sm F y L (j + 1), sm_left]
    have : (fun i => atY (F (j + 1 + i)) y (j + 1 + i)) = fun i => atY (F (j + (i + 1))) y (j + (i + 1)) := by
      funext i; rw [show j + 1 + i = j + (i + 1) by omega]
    rw [this]; rfl
/-- the form of one neighbourhood: |e|^2 at g + s without the square of s, less a weight, and a box -/
def mkQ (al G d w b : Int) : Q5 :=
  ⟨al * 1099511627776 * 1048576 - w + b, -(al * 1099511627776 * (1024 * (G + d))) + b, al * 1099511627776 * (1024 * (G + d)), -(al * 1099511627776 * 1048576), 0,
   al * 1099511627776 * (G * G + 2 * d * G) + b, -(al * 1099511627776 * (G * G + 2 * d * G)), al * 1099511627776 * (1024 * (G + d)), 0,
   al * 1099511627776 * (G * G + 2 * d * G), -(al * 1099511627776 * (1024 * (G + d))), 0,
   al * 1099511627776 * 1048576, 0, 0⟩
/-- in sums -/
def difQ (f : Q5) : Q5 :=
  ⟨f.a00, f.a01 - f.a00, f.a02 - f.a01, f.a03 - f.a02, -f.a03,
   f.a00 + f.a11 - 2 * f.a01, f.a01 - f.a02 - f.a11 + f.a12, f.a02 - f.a03 - f.a12 + f.a13, f.a03 - f.a13,
   f.a11 + f.a22 - 2 * f.a12, f.a12 - f.a13 - f.a22 + f.a23, f.a13 - f.a23,
   f.a22 + f.a33 - 2 * f.a23, f.a23 - f.a33, f.a33⟩
theorem difQ_at (f : Q5) (h : f.a04 = 0 ∧ f.a14 = 0 ∧ f.a24 = 0 ∧ f.a34 = 0 ∧ f.a44 = 0) (s0 s1 s2 s3 s4 : Rat) : (difQ f).at s0 s1 s2 s3 s4 = f.at (s0 - s1) (s1 - s2) (s2 - s3) (s3 - s4) 0 := by
  obtain ⟨h1, h2, h3, h4, h5⟩ := h
  unfold difQ Q5.at
  simp only [h1, h2, h3, h4, h5, Rat.intCast_add, Rat.intCast_sub, Rat.intCast_mul, Rat.intCast_neg, Rat.intCast_ofNat]
  grind
def sV0 : Q4 := ⟨18889465931478580854784, 0, 0, 0, 18889465931478580854784, 0, 0, 18889465931478580854784, 0, 18889465931478580854784⟩
/-- what |e|^2 is at g + s without the square of s -/
def uF (c : Nat → Rat) (n : Nat) (g s : Rat) : Rat := 2 * ((1 + g * g + 2 * s * g) * dk c n 0 - (2 * (g + s) + g * g + 2 * s * g) * dk c n 1 + 2 * (g + s) * dk c n 2 - dk c n 3)
def vF (c : Nat → Rat) (n : Nat) (g : Rat) : Rat := (1 + g * g) * dk c n 0 - (2 * g + g * g) * dk c n 1 + 2 * g * dk c n 2 - dk c n 3
theorem uF_vF (c : Nat → Rat) (n : Nat) (g s : Rat) : uF c n g s = 2 * vF c n (g + s) - 2 * (s * s) * (dk c n 0 - dk c n 1) := by
  unfold uF vF; grind
theorem mk_sum (c : Nat → Rat) {n : Nat} (hn : 4 ≤ n) (al G d : Int) (w b : Nat → Int) :
    sm (fun m => atY (mkQ al G d (w m) (b m)) (yOf c n) m) (n + 4) =
      1152921504606846976 * (al : Rat) * uF c n ((G : Rat) / 1024) ((d : Rat) / 1024)
      - sm (fun m => (w m : Rat) * (yOf c n (m + 4) * yOf c n (m + 4))) (n + 4)
      + sm (fun m => (b m : Rat) * ((yOf c n (m + 4) + yOf c n (m + 3)) * (yOf c n (m + 4) + yOf c n (m + 3)))) (n + 4) := by
  have h := form_sum c hn (1099511627776 * (al : Rat) * 1048576) (-(1099511627776 * (al : Rat) * (1024 * (G + d)))) (1099511627776 * (al : Rat) * (1024 * (G + d))) (-(1099511627776 * (al : Rat) * 1048576)) 0
    (1099511627776 * (al : Rat) * (G * G + 2 * d * G)) (-(1099511627776 * (al : Rat) * (G * G + 2 * d * G))) (1099511627776 * (al : Rat) * (1024 * (G + d))) 0
    (1099511627776 * (al : Rat) * (G * G + 2 * d * G)) (-(1099511627776 * (al : Rat) * (1024 * (G + d)))) 0
    (1099511627776 * (al : Rat) * 1048576) 0 0
  have e : sm (fun m => atY (mkQ al G d (w m) (b m)) (yOf c n) m) (n + 4) = sm (fun m =>
      (1099511627776 * (al : Rat) * 1048576) * (yOf c n (m + 4) * yOf c n (m + 4)) + 2 * (-(1099511627776 * (al : Rat) * (1024 * (G + d)))) * (yOf c n (m + 4) * yOf c n (m + 3)) + 2 * (1099511627776 * (al : Rat) * (1024 * (G + d))) * (yOf c n (m + 4) * yOf c n (m + 2)) + 2 * (-(1099511627776 * (al : Rat) * 1048576)) * (yOf c n (m + 4) * yOf c n (m + 1)) + 2 * 0 * (yOf c n (m + 4) * yOf c n m)
      + (1099511627776 * (al : Rat) * (G * G + 2 * d * G)) * (yOf c n (m + 3) * yOf c n (m + 3)) + 2 * (-(1099511627776 * (al : Rat) * (G * G + 2 * d * G))) * (yOf c n (m + 3) * yOf c n (m + 2)) + 2 * (1099511627776 * (al : Rat) * (1024 * (G + d))) * (yOf c n (m + 3) * yOf c n (m + 1)) + 2 * 0 * (yOf c n (m + 3) * yOf c n m)
      + (1099511627776 * (al : Rat) * (G * G + 2 * d * G)) * (yOf c n (m + 2) * yOf c n (m + 2)) + 2 * (-(1099511627776 * (al : Rat) * (1024 * (G + d)))) * (yOf c n (m + 2) * yOf c n (m + 1)) + 2 * 0 * (yOf c n (m + 2) * yOf c n m)
      + (1099511627776 * (al : Rat) * 1048576) * (yOf c n (m + 1) * yOf c n (m + 1)) + 2 * 0 * (yOf c n (m + 1) * yOf c n m) + 0 * (yOf c n m * yOf c n m)
      + (-((w m : Rat) * (yOf c n (m + 4) * yOf c n (m + 4))) + (b m : Rat) * ((yOf c n (m + 4) + yOf c n (m + 3)) * (yOf c n (m + 4) + yOf c n (m + 3))))) (n + 4) := by
    refine sm_congr fun m _ => ?_
    unfold atY mkQ Q5.at
    simp only [Rat.intCast_add, Rat.intCast_sub, Rat.intCast_mul, Rat.intCast_neg, Rat.intCast_ofNat]
    grind
  rw [e, sm_add, h, sm_add, sm_neg]
  unfold uF
  grind

end Go.Proofs.Ytpdnjcblkjjegaa

