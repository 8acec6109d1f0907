import Derived.Test.YtmnpdipiffmnhaaVT115
import Derived.Test.YtmnpdipiffmnhaaVT177
import Derived.Test.YtmnpdipiffmnhaaVT178
import Derived.Test.YtmnpdipiffmnhaaVT119
import Derived.Test.YtmnpdipiffmnhaaVT159
set_option linter.unusedVariables false
set_option linter.unusedSimpArgs false
set_option maxRecDepth 20000
set_option maxHeartbeats 8000000
namespace Go.Proofs.Ytmnpdipiffmnhaa
open Go.Aw

/-! ### bands of what is drawn: they are told, and rise with their share -/
theorem StB.mono {M N : Rat} {s : ST} (h : StB M s) (hM : M ≤ N) : StB N s := ⟨h.fl.mono hM, h.fs.mono hM, fun i hi => (h.fe i hi).mono hM, h.fn, h.fa⟩
def p42 (M : Rat) : Nat → Rat
  | 0 => M
  | k + 1 => 42 * p42 M k
theorem p42_ge : ∀ k, 64 ≤ p42 64 k
  | 0 => Rat.le_refl
  | k + 1 => by have := p42_ge k; show 64 ≤ 42 * p42 64 k; grind
theorem p42_mono {i : Nat} : ∀ {k : Nat}, i ≤ k → p42 64 i ≤ p42 64 k
  | 0, hk => by obtain rfl : i = 0 := by omega
                exact Rat.le_refl
  | k + 1, hk => by
    rcases Nat.lt_or_ge i (k + 1) with h1 | h1
    · have := p42_mono (show i ≤ k by omega); have h2 := p42_ge k
      show _ ≤ 42 * p42 64 k; grind
    · obtain rfl : i = k + 1 := by omega
      exact Rat.le_refl
theorem p42_5 : p42 64 5 ≤ 10000000000 := by decide +kernel
theorem bd_0 : Bd 0 64 := ⟨one_01.2.2.1, by rw [one_01.2.2.2]; decide, by rw [one_01.2.2.2]; decide⟩
theorem miss_bd {m : List Nat} {sd : Nat} (hm : ∀ i, i < m.length → Bd (m.getD i 0) 64) (h1 : 1 ≤ m.length) (hsd : sd < 4294967296) : Bd (m.getD (miA m sd) 0) 64 := hm _ (miA_lt hsd h1)
theorem bn_bd {s : ST} {h : SH} {m : List Nat} {sd : Nat} (hs : StB 64 s) (hh : ShB h) (hm : ∀ i, i < m.length → Bd (m.getD i 0) 64) (hm1 : 1 ≤ m.length) (hsd : sd < 4294967296) : ∀ k, k ≤ 5 → StB (p42 64 k) (bnS s h m sd k) ∧ (k < 5 → Bd (bnX s h m sd k) 1000000000000 ∧ bnO s h m sd k = true) := by
  have key : ∀ k, k < 5 → StB (p42 64 k) (bnS s h m sd k) → StB (p42 64 (k + 1)) (bnS s h m sd (k + 1)) ∧ Bd (bnX s h m sd k) 1000000000000 ∧ bnO s h m sd k = true := fun k hk ih => by
    have g1 := p42_ge k
    have g2 := p42_mono (show k ≤ 5 by omega)
    have g3 := p42_5
    have hx := miss_bd (m := m) (sd := sdI sd (k + 1)) hm hm1 (sdI_lt hsd (k + 1))
    have st := ih.step hh (bd_0.mono g1) (by grind) (by grind)
    have hX : Bd (bnX s h m sd k) (6 * p42 64 k) := addB st.1 hx (by unfold okM; constructor <;> grind) (by grind)
    have st2 := (ih.mono (show p42 64 k ≤ 6 * p42 64 k by grind)).step hh hX (by grind) (by grind)
    have hS : StB (p42 64 (k + 1)) (bnS s h m sd (k + 1)) := by
      rw [bnS_S]
      exact st2.2.2.mono (show 7 * (6 * p42 64 k) ≤ 42 * p42 64 k by grind)
    refine ⟨hS, hX.mono (by grind), ?_⟩
    unfold bnO
    rw [show fin (bnX s h m sd k) = true from finB_Fn hX.1, show fin (erF (bnS s h m sd k) h (bnX s h m sd k)) = true from finB_Fn st2.2.1.1, hS.valid]; rfl
  intro k
  induction k with
  | zero => exact fun _ => ⟨hs, fun _ => (key 0 (by omega) hs).2⟩
  | succ k ih =>
    intro hk
    have h1 := (key k (by omega) (ih (by omega)).1).1
    exact ⟨h1, fun h2 => (key (k + 1) h2 h1).2⟩
theorem bOk_bd {s : ST} {h : SH} {m : List Nat} {sd C D : Nat} (hs : StB 64 s) (hh : ShB h) (hm : ∀ i, i < m.length → Bd (m.getD i 0) 64) (hm1 : 1 ≤ m.length) (hsd : sd < 4294967296) (hC : C ≤ 5) : bOk s h m sd C D = true :=
  bOk_of fun d _ k hk => ((bn_bd hs hh hm hm1 (sdI_lt hsd (d * C)) k (by omega)).2 (by omega)).2
theorem bcL_bnd {s : ST} {h : SH} {m : List Nat} {sd C D k : Nat} (hs : StB 64 s) (hh : ShB h) (hm : ∀ i, i < m.length → Bd (m.getD i 0) 64) (hm1 : 1 ≤ m.length) (hsd : sd < 4294967296) (hk : k < 5) : ∀ x ∈ bcL s h m sd C D k, Bnd x := fun x hx => by
  obtain ⟨d, _, rfl⟩ := List.mem_map.1 hx
  have := ((bn_bd hs hh hm hm1 (sdI_lt hsd (d * C)) k (by omega)).2 hk).1
  exact ⟨this.1, by have := this.2.1; grind, by have := this.2.2; grind⟩
/-- the bands of one share -/
structure BandI (s : ST) (h : SH) (m : List Nat) (sd C D sh : Nat) : Prop where
  yes : bandsF s h m (C : Int) (D : Int) (sd : Int) sh = ⟨bqL s h m sd C D sh, (sdI sd (D * C) : Nat), true⟩
  fk : ∀ k, k < C → Fnt .f32 ((bqL s h m sd C D sh).getD k 0)
theorem isSer_bd {a : List Nat} (ha : ∀ i, i < a.length → Bd (a.getD i 0) 64) (h1 : 1 ≤ a.length) (hl : a.length ≤ 96) : isSer a = true := by
  unfold isSer
  rw [decide_eq_true h1, decide_eq_true hl, all_fin2 fun i hi => (ha i hi).1]; rfl
theorem band_of {s : ST} {h : SH} {m : List Nat} {sd C D sh : Nat} (hs : StB 64 s) (hh : ShB h) (hm : ∀ i, i < m.length → Bd (m.getD i 0) 64) (hm1 : 1 ≤ m.length ∧ m.length ≤ 96) (hsd : sd < 4294967296) (hC : 1 ≤ C ∧ C ≤ 5) (hD : 1 ≤ D ∧ D ≤ 8) (hq : isShr sh = true) (hf : Fnt .f32 (qFr D sh) ∧ 0 ≤ rv .f32 (qFr D sh) ∧ rv .f32 (qFr D sh) ≤ 3 / 4) :
    BandI s h m sd C D sh := by
  have hb := bOk_bd (C := C) (D := D) hs hh hm hm1.1 hsd hC.2
  have hfk : ∀ k, k < C → Fnt .f32 ((bqL s h m sd C D sh).getD k 0) := fun k hk => by
    rw [bqL_get hk]
    have hl := bcL_len s h m sd C D k
    exact (quant_in (bcL_bnd hs hh hm hm1.1 hsd (by omega)) (by omega) (by rw [hl]; exact hf)).1
  refine ⟨bandsF_yes hs.valid hh.v (isSer_bd hm hm1.1 hm1.2) (by rw [inR_t]; omega) (by rw [inR_t]; omega) (by rw [inR_t]; omega) hq hb (all_fin2 fun i hi => hfk i (by rw [bqL_len] at hi; exact hi)), hfk⟩
theorem band_le {s : ST} {h : SH} {m : List Nat} {sd C D : Nat} (hs : StB 64 s) (hh : ShB h) (hm : ∀ i, i < m.length → Bd (m.getD i 0) 64) (hm1 : 1 ≤ m.length ∧ m.length ≤ 96) (hsd : sd < 4294967296) (hC : 1 ≤ C ∧ C ≤ 5) (hD : 1 ≤ D ∧ D ≤ 8) {k : Nat} (hk : k < C) :
    fcmp .gtr .f32 ((bqL s h m sd C D sh1).getD k 0) ((bqL s h m sd C D sh3).getD k 0) = false := by
  have q := q8_of hD.1 hD.2
  have b1 := (band_of (C := C) (D := D) hs hh hm hm1 hsd hC hD shr_123.1 q.f1).fk k hk
  have b3 := (band_of (C := C) (D := D) hs hh hm hm1 hsd hC hD shr_123.2.2 q.f3).fk k hk
  rw [gtr_rv b1 b3]
  have hl := bcL_len s h m sd C D k
  have := quant_le (bcL_bnd (C := C) (D := D) hs hh hm hm1.1 hsd (show k < 5 by omega)) (by omega) (by omega)
  rw [bqL_get hk, bqL_get hk]
  exact decide_eq_false (Rat.not_lt.2 this)
end Go.Proofs.Ytmnpdipiffmnhaa

set_option linter.unusedVariables false
set_option linter.unusedSimpArgs false
set_option maxRecDepth 20000
set_option maxHeartbeats 8000000
namespace Go.Proofs.Ytmnpdipiffmnhaa
open Go.Aw

/-! ### bands without misses are the ways ahead, nearly -/
theorem rvz_add {a z : Nat} (ha : Fnt .f32 a) (hz : Fnt .f32 z) (h0 : rv .f32 z = 0) (h1 : rv .f32 a ≤ 1000000000000000) (h2 : -1000000000000000 ≤ rv .f32 a) : Fnt .f32 (fop .add .f32 a z) ∧ rv .f32 (fop .add .f32 a z) = rv .f32 a := by
  have ht := top_ge
  have r := add_rds ha hz
  have f := r.fin (by grind) (by grind)
  exact ⟨f, r.exact ha f (by grind)⟩
theorem rvz_mul {a z : Nat} (ha : Fnt .f32 a) (hz : Fnt .f32 z) (h0 : rv .f32 z = 0) : Fnt .f32 (fop .mul .f32 a z) ∧ rv .f32 (fop .mul .f32 a z) = 0 := by
  have ht := top_ge
  have r := mul_rds ha hz
  rw [h0, Rat.mul_zero] at r
  have f := r.fin (by grind) (by grind)
  have e := r.exact one_01.2.2.1 f one_01.2.2.2.symm
  exact ⟨f, by rw [e, one_01.2.2.2]⟩
theorem rvz_sub {a b : Nat} (ha : Fnt .f32 a) (hb : Fnt .f32 b) (h0 : rv .f32 a = rv .f32 b) : Fnt .f32 (fop .sub .f32 a b) ∧ rv .f32 (fop .sub .f32 a b) = 0 := by
  have ht := top_ge
  have r := sub_rds ha hb
  rw [show rv .f32 a - rv .f32 b = 0 by grind] at r
  have f := r.fin (by grind) (by grind)
  have e := r.exact one_01.2.2.1 f one_01.2.2.2.symm
  exact ⟨f, by rw [e, one_01.2.2.2]⟩
def sgX (d s : Rat) : Nat → Rat
  | 0 => s
  | k + 1 => d * sgX d s k
def laX (d s l : Rat) : Nat → Rat
  | 0 => l
  | k + 1 => laX d s l k + d * sgX d s k
def fX (d : Rat) : Nat → Rat
  | 0 => d
  | k + 1 => fX d k * d
def dX (d : Rat) : Nat → Rat
  | 0 => d
  | k + 1 => dX d k + fX d k * d
theorem id_1 (d s : Rat) : ∀ k, d * sgX d s k = fX d k * s
  | 0 => rfl
  | k + 1 => by show d * (d * sgX d s k) = fX d k * d * s; rw [id_1 d s k]; grind
theorem id_2 (d s l : Rat) : ∀ k, laX d s l k + d * sgX d s k = l + dX d k * s
  | 0 => rfl
  | k + 1 => by
    have h1 := id_2 d s l k
    have h2 := id_1 d s (k + 1)
    show laX d s l k + d * sgX d s k + d * sgX d s (k + 1) = l + (dX d k + fX d k * d) * s
    rw [h1, h2]
    show l + dX d k * s + fX d k * d * s = _
    grind
theorem sg_bd {d s : Rat} (h0 : 0 ≤ d) (h1 : d ≤ 1) (hs : s ≤ 64 ∧ -64 ≤ s) : ∀ k, sgX d s k ≤ 64 ∧ -64 ≤ sgX d s k
  | 0 => hs
  | k + 1 => by
    have ih := sg_bd h0 h1 hs k
    have := mul_bd (x := d) (y := sgX d s k) (M := 1) (N := 64) h1 (by grind) ih.1 ih.2
    exact ⟨by show d * sgX d s k ≤ 64; grind, by show -64 ≤ d * sgX d s k; grind⟩
theorem la_bd {d s l : Rat} (h0 : 0 ≤ d) (h1 : d ≤ 1) (hs : s ≤ 64 ∧ -64 ≤ s) (hl : l ≤ 64 ∧ -64 ≤ l) : ∀ k, laX d s l k ≤ 64 + 64 * (k : Rat) ∧ -(64 + 64 * (k : Rat)) ≤ laX d s l k
  | 0 => ⟨by show l ≤ 64 + 64 * ((0 : Nat) : Rat); have : ((0 : Nat) : Rat) = 0 := rfl; grind, by show -(64 + 64 * ((0 : Nat) : Rat)) ≤ l; have : ((0 : Nat) : Rat) = 0 := rfl; grind⟩
  | k + 1 => by
    have ih := la_bd h0 h1 hs hl k
    have sg := sg_bd h0 h1 hs k
    have := mul_bd (x := d) (y := sgX d s k) (M := 1) (N := 64) h1 (by grind) sg.1 sg.2
    have e : ((k + 1 : Nat) : Rat) = (k : Rat) + 1 := by push_cast; rfl
    rw [e]
    exact ⟨by show laX d s l k + d * sgX d s k ≤ _; grind, by show _ ≤ laX d s l k + d * sgX d s k; grind⟩
theorem f_bd {d : Rat} (h0 : 0 ≤ d) (h1 : d ≤ 1) : ∀ k, 0 ≤ fX d k ∧ fX d k ≤ 1
  | 0 => ⟨h0, h1⟩
  | k + 1 => by
    have ih := f_bd h0 h1 k
    have a := Rat.mul_nonneg ih.1 h0
    have := mul_bd (x := fX d k) (y := d) (M := 1) (N := 1) ih.2 (by grind) h1 (by grind)
    exact ⟨a, by show fX d k * d ≤ 1; grind⟩
theorem d_bd {d : Rat} (h0 : 0 ≤ d) (h1 : d ≤ 1) : ∀ k, 0 ≤ dX d k ∧ dX d k ≤ (k : Rat) + 1
  | 0 => ⟨h0, by show d ≤ ((0 : Nat) : Rat) + 1; have : ((0 : Nat) : Rat) = 0 := rfl; grind⟩
  | k + 1 => by
    have ih := d_bd h0 h1 k
    have f := f_bd h0 h1 (k + 1)
    have e : ((k + 1 : Nat) : Rat) = (k : Rat) + 1 := by push_cast; rfl
    rw [e]
    exact ⟨by show 0 ≤ dX d k + fX d (k + 1); grind, by show dX d k + fX d (k + 1) ≤ _; grind⟩
/-- a state that has gone k steps without a miss -/
structure NoM (s : ST) (h : SH) (k : Nat) (S : ST) : Prop where
  fs : Fnt .f32 S.s
  es1 : rv .f32 S.s - sgX (rv .f32 h.d) (rv .f32 s.s) k ≤ (k : Rat) / 100000
  es2 : sgX (rv .f32 h.d) (rv .f32 s.s) k - rv .f32 S.s ≤ (k : Rat) / 100000
  fl : Fnt .f32 S.l
  el1 : rv .f32 S.l - laX (rv .f32 h.d) (rv .f32 s.s) (rv .f32 s.l) k ≤ (k : Rat) / 5000
  el2 : laX (rv .f32 h.d) (rv .f32 s.s) (rv .f32 s.l) k - rv .f32 S.l ≤ (k : Rat) / 5000
  ln : S.se.length = s.se.length
  fe : ∀ i, i < s.se.length → Fnt .f32 (S.se.getD i 0) ∧ rv .f32 (S.se.getD i 0) = rv .f32 (s.se.getD i 0)
  at_ : S.at_ = ((s.at_.toNat + k) % s.se.length : Nat)
structure NoG (s : ST) (h : SH) (k : Nat) (S : ST) : Prop where
  g : Bd (gsF S h) 600
  g1 : rv .f32 (gsF S h) - (laX (rv .f32 h.d) (rv .f32 s.s) (rv .f32 s.l) k + rv .f32 h.d * sgX (rv .f32 h.d) (rv .f32 s.s) k + rv .f32 (s.se.getD ((s.at_.toNat + k) % s.se.length) 0)) ≤ 12 / 10000
  g2 : (laX (rv .f32 h.d) (rv .f32 s.s) (rv .f32 s.l) k + rv .f32 h.d * sgX (rv .f32 h.d) (rv .f32 s.s) k + rv .f32 (s.se.getD ((s.at_.toNat + k) % s.se.length) 0)) - rv .f32 (gsF S h) ≤ 12 / 10000
  nx : NoM s h (k + 1) (nxF S h (fop .add .f32 (gsF S h) 0))
theorem bdk {k : Nat} (h : k ≤ 4) : (0 : Rat) ≤ (k : Rat) ∧ (k : Rat) ≤ 4 := ⟨by exact_mod_cast Nat.zero_le k, by exact_mod_cast h⟩
theorem NoM.step {s : ST} {h : SH} {k : Nat} {S : ST} (hs : StB 64 s) (hh : ShB h) (hk : k ≤ 4) (H : NoM s h k S) : NoG s h k S := by
  have hd := hh.d
  have hkk := bdk hk
  have sg := sg_bd hd.2.1 hd.2.2 hs.fs.2 k
  have la := la_bd hd.2.1 hd.2.2 hs.fs.2 hs.fl.2 k
  have hn := hs.fn
  have hmod := Nat.mod_lt (s.at_.toNat + k) (show 0 < s.se.length by omega)
  have hse := H.fe _ hmod
  have hsb := hs.fe _ hmod
  have hat : S.at_.toNat = (s.at_.toNat + k) % s.se.length := by rw [H.at_]; exact Int.toNat_natCast _
  have hes1 := H.es1; have hes2 := H.es2; have hel1 := H.el1; have hel2 := H.el2
  generalize hsg : sgX (rv .f32 h.d) (rv .f32 s.s) k = σ at *
  generalize hla : laX (rv .f32 h.d) (rv .f32 s.s) (rv .f32 s.l) k = Λ at *
  have dd1 := mul_bd (x := rv .f32 h.d) (y := rv .f32 S.s - σ) (M := 1) (N := (k : Rat) / 100000) hd.2.2 (by grind) hes1 (by grind)
  have dd2 := mul_bd (x := rv .f32 h.d) (y := σ) (M := 1) (N := 64) hd.2.2 (by grind) sg.1 sg.2
  have dde : rv .f32 h.d * rv .f32 S.s = rv .f32 h.d * (rv .f32 S.s - σ) + rv .f32 h.d * σ := by grind
  obtain ⟨e1, p1, p2, p3, p4⟩ := mul32 (a := h.d) (b := S.s) (M := 66) hd.1 H.fs (by grind) (by grind) (by unfold okM; constructor <;> grind)
  obtain ⟨e2, q1, q2, q3, q4⟩ := add32 (a := S.l) (b := fop .mul .f32 h.d S.s) (M := 500) H.fl p4 (by grind) (by grind) (by unfold okM; constructor <;> grind)
  have hgd : gsF S h = fop .add .f32 (fop .add .f32 S.l (fop .mul .f32 h.d S.s)) (S.se.getD ((s.at_.toNat + k) % s.se.length) 0) := by unfold gsF; rw [hat]
  obtain ⟨e3, r1, r2, r3, r4⟩ := add32 (a := fop .add .f32 S.l (fop .mul .f32 h.d S.s)) (b := S.se.getD ((s.at_.toNat + k) % s.se.length) 0) (M := 599) q4 hse.1 (by have := hsb.2; grind) (by have := hsb.2; grind) (by unfold okM; constructor <;> grind)
  rw [← hgd] at r1 r4
  have hb := hsb.2
  -- the miss is nought
  have hx := rvz_add r4 one_01.2.2.1 one_01.2.2.2 (by grind) (by grind)
  have he : Fnt .f32 (erF S h (fop .add .f32 (gsF S h) 0)) ∧ rv .f32 (erF S h (fop .add .f32 (gsF S h) 0)) = 0 := by
    unfold erF; exact rvz_sub hx.1 r4 hx.2
  generalize hxx : fop .add .f32 (gsF S h) 0 = x at *
  have z1 := rvz_mul hh.l.1 he.1 he.2
  have z2 := rvz_mul (share_mul hh.l hh.s).1 he.1 he.2
  have z3 := rvz_mul (share_mul hh.c (share_sub hh.l)).1 he.1 he.2
  have n1 := rvz_add q4 z1.1 z1.2 (by grind) (by grind)
  have n2 := rvz_add p4 z2.1 z2.2 (by grind) (by grind)
  have n3 := rvz_add hse.1 z3.1 z3.2 (by grind) (by grind)
  have ek : ((k + 1 : Nat) : Rat) = (k : Rat) + 1 := by push_cast; rfl
  refine ⟨⟨r4, by rw [r1]; grind, by rw [r1]; grind⟩, by rw [r1]; grind, by rw [r1]; grind, ?_⟩
  rw [hxx]
  refine ⟨n2.1, ?_, ?_, n1.1, ?_, ?_, by rw [nxF_len]; exact H.ln, fun i hi => ?_, ?_⟩
  · show rv .f32 (fop .add .f32 (fop .mul .f32 h.d S.s) (fop .mul .f32 (fop .mul .f32 h.l h.s) (erF S h x))) - rv .f32 h.d * sgX (rv .f32 h.d) (rv .f32 s.s) k ≤ _
    rw [n2.2, hsg, ek]; grind
  · show rv .f32 h.d * sgX (rv .f32 h.d) (rv .f32 s.s) k - rv .f32 (fop .add .f32 (fop .mul .f32 h.d S.s) (fop .mul .f32 (fop .mul .f32 h.l h.s) (erF S h x))) ≤ _
    rw [n2.2, hsg, ek]; grind
  · show rv .f32 (fop .add .f32 (fop .add .f32 S.l (fop .mul .f32 h.d S.s)) (fop .mul .f32 h.l (erF S h x))) - (laX (rv .f32 h.d) (rv .f32 s.s) (rv .f32 s.l) k + rv .f32 h.d * sgX (rv .f32 h.d) (rv .f32 s.s) k) ≤ _
    rw [n1.2, hsg, hla, ek]; grind
  · show (laX (rv .f32 h.d) (rv .f32 s.s) (rv .f32 s.l) k + rv .f32 h.d * sgX (rv .f32 h.d) (rv .f32 s.s) k) - rv .f32 (fop .add .f32 (fop .add .f32 S.l (fop .mul .f32 h.d S.s)) (fop .mul .f32 h.l (erF S h x))) ≤ _
    rw [n1.2, hsg, hla, ek]; grind
  · by_cases hc : S.at_.toNat = i
    · have e : (nxF S h x).se.getD i 0 = fop .add .f32 (S.se.getD S.at_.toNat 0) (fop .mul .f32 (fop .mul .f32 h.c (fop .sub .f32 1065353216 h.l)) (erF S h x)) := by
        subst hc
        have hil : S.at_.toNat < S.se.length := by rw [H.ln]; exact hi
        simp [nxF, List.getD_eq_getElem?_getD, hil]
      rw [e]
      rw [hat] at hc ⊢
      rw [← hc]
      exact ⟨n3.1, n3.2.trans hse.2⟩
    · have e : (nxF S h x).se.getD i 0 = S.se.getD i 0 := by simp [nxF, List.getD_eq_getElem?_getD, hc]
      rw [e]; exact H.fe i hi
  · show (S.at_ + 1) % (S.se.length : Int) = _
    rw [H.at_, H.ln, show s.at_.toNat + (k + 1) = s.at_.toNat + k + 1 by omega]
    have e2 : (((s.at_.toNat + k) % s.se.length : Nat) : Int) + 1 = (((s.at_.toNat + k) % s.se.length + 1 : Nat) : Int) := by push_cast; rfl
    rw [e2, ← Int.natCast_emod, Nat.mod_add_mod]
theorem z_get : ∀ i : Nat, [0].getD i 0 = 0
  | 0 => rfl
  | i + 1 => rfl
theorem noM_run {s : ST} {h : SH} {sd : Nat} (hs : StB 64 s) (hh : ShB h) : ∀ k, k ≤ 5 → NoM s h k (bnS s h [0] sd k)
  | 0, _ => by
    have ha := hs.fa
    refine ⟨hs.fs.1, ?_, ?_, hs.fl.1, ?_, ?_, rfl, fun i hi => ⟨(hs.fe i hi).1, rfl⟩, ?_⟩
    · show rv .f32 s.s - rv .f32 s.s ≤ ((0 : Nat) : Rat) / 100000; have : ((0 : Nat) : Rat) = 0 := rfl; grind
    · show rv .f32 s.s - rv .f32 s.s ≤ ((0 : Nat) : Rat) / 100000; have : ((0 : Nat) : Rat) = 0 := rfl; grind
    · show rv .f32 s.l - rv .f32 s.l ≤ ((0 : Nat) : Rat) / 5000; have : ((0 : Nat) : Rat) = 0 := rfl; grind
    · show rv .f32 s.l - rv .f32 s.l ≤ ((0 : Nat) : Rat) / 5000; have : ((0 : Nat) : Rat) = 0 := rfl; grind
    · show s.at_ = _
      rw [Nat.add_zero, Nat.mod_eq_of_lt (by omega)]; omega
  | k + 1, hk => by
    have ih := noM_run (sd := sd) hs hh k (by omega)
    have := (ih.step hs hh (by omega)).nx
    rw [bnS_S]
    have e : bnX s h [0] sd k = fop .add .f32 (gsF (bnS s h [0] sd k) h) 0 := by
      unfold bnX
      rw [z_get]
    rw [e]; exact this
end Go.Proofs.Ytmnpdipiffmnhaa

