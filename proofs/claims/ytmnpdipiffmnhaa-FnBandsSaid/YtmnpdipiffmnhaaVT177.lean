import Derived.Test.YtmnpdipiffmnhaaVT167
import Derived.Test.YtmnpdipiffmnhaaVT118t
import Derived.Test.YtmnpdipiffmnhaaVT60
import Derived.Test.YtmnpdipiffmnhaaVAwN
import Derived.Test.YtmnpdipiffmnhaaVAwJ
set_option linter.unusedVariables false
set_option linter.unusedSimpArgs false
set_option maxRecDepth 20000
set_option maxHeartbeats 8000000
namespace Go.Proofs.Ytmnpdipiffmnhaa
open Go.Aw

/-! ### what has been handed over, or made, as what was there -/
def OldV (v0 v : AV) : Prop := v0 = v ∨ ∃ t, v = .old t ∧ (v0 = .t t ∨ (∃ i, v0 = .arg i t) ∨ ∃ i j, v0 = .argc i j t)
def OldL : List AV → List AV → Prop
  | [], [] => True
  | v :: r, u :: q => OldV v u ∧ OldL r q
  | _, _ => False
def OldB (B0 B : Blk) : Prop := B0 = B ∨ ∃ e l l', B0 = .box e l ∧ B = .box e l' ∧ OldL l l'
def OldF : List (Nat × AV) → List (Nat × AV) → Prop
  | [], [] => True
  | (i, v) :: r, (j, u) :: q => i = j ∧ OldV v u ∧ OldF r q
  | _, _ => False
def OldH : List (Nat × Blk) → List (Nat × Blk) → Prop
  | [], [] => True
  | (i, v) :: r, (j, u) :: q => i = j ∧ OldB v u ∧ OldH r q
  | _, _ => False
theorem OldV.vr {vs : Env} {w : World} {μ : Nat → Option Nat} {ok : Nat → Prop} {v0 v : AV} {y : Value} (h : OldV v0 v) (hy : VR vs w μ ok v0 y) : VR vs w μ ok v y := by
  rcases h with rfl | ⟨t, rfl, rfl | ⟨i, rfl⟩ | ⟨i, j, rfl⟩⟩
  · exact hy
  · rw [VR] at *; exact TR.mono (fun b hb h => ⟨hb, h.1, rfl⟩) _ _ hy
  · rw [VR] at *; exact TR.mono (fun b hb h => ⟨hb, h.1, rfl⟩) _ _ hy.2
  · rw [VR] at *; exact TR.mono (fun b hb h => ⟨hb, h.1, rfl⟩) _ _ hy.2
theorem OldL.vr {vs : Env} {w : World} {μ : Nat → Option Nat} {ok : Nat → Prop} : ∀ {l l' : List AV} {ys : List Value}, OldL l l' → VRl vs w μ ok l ys → VRl vs w μ ok l' ys
  | [], [], _, _, h => h
  | v :: r, u :: q, ys, h, hy => by
    simp only [VRl] at hy ⊢
    obtain ⟨x, zs, rfl, h1, h2⟩ := hy
    exact ⟨x, zs, rfl, h.1.vr h1, OldL.vr h.2 h2⟩
theorem OldF.lk : ∀ {α α' : List (Nat × AV)}, OldF α α' → ∀ n, OldV (lkF α n) (lkF α' n)
  | [], [], _, n => .inl rfl
  | (i, v) :: r, (j, u) :: q, h, n => by
    obtain ⟨rfl, h1, h2⟩ := h
    simp only [lkF]
    cases Nat.beq n i
    · exact OldF.lk h2 n
    · exact h1
theorem OldH.lk : ∀ {l l' : List (Nat × Blk)}, OldH l l' → ∀ n, (lkH l n = none ∧ lkH l' n = none) ∨ ∃ B B', lkH l n = some B ∧ lkH l' n = some B' ∧ OldB B B'
  | [], [], _, n => .inl ⟨rfl, rfl⟩
  | (i, v) :: r, (j, u) :: q, h, n => by
    obtain ⟨rfl, h1, h2⟩ := h
    simp only [lkH]
    cases Nat.beq n i
    · exact OldH.lk h2 n
    · exact .inr ⟨v, u, rfl, rfl, h1⟩
theorem awp_old {P : Program} {N : Nat} {Q : Exit → Fr → Hp → Prop} {c : Code} {α : List (Nat × AV)} {l : List (Nat × Blk)} {fm : Hp} (α' : List (Nat × AV)) (l' : List (Nat × Blk)) (hF : OldF α α') (hH : OldH l l') (h : AWp P N c Q (lkF α') (ovH (lkH l') fm)) : AWp P N c Q (lkF α) (ovH (lkH l) fm) := by
  intro vs w0 μ a w hs
  have hcase : ∀ n, (ovH (lkH l) fm n = ovH (lkH l') fm n) ∨ ∃ B B', ovH (lkH l) fm n = some B ∧ ovH (lkH l') fm n = some B' ∧ OldB B B' := fun n => by
    rcases Nat.lt_or_ge n bigN with hn | hn
    · rw [ovH_lt hn, ovH_lt hn]
      rcases hH.lk n with ⟨h1, h2⟩ | hh
      · exact .inl (h1.trans h2.symm)
      · exact .inr hh
    · rw [ovH_ge hn, ovH_ge hn]; exact .inl rfl
  have hsome : ∀ n, (ovH (lkH l) fm n).isSome = (ovH (lkH l') fm n).isSome := fun n => by
    rcases hcase n with h1 | ⟨B, B', h1, h2, _⟩
    · rw [h1]
    · rw [h1, h2]; rfl
  have hok : okOf μ (ovH (lkH l') fm) = okOf μ (ovH (lkH l) fm) := by
    funext b; unfold okOf
    simp only [hsome]
  refine h vs w0 μ a w ⟨⟨hs.hc.base, hs.hc.below, fun i B hB => ?_, fun i j b hi hj => hs.hc.inj i j b (by rw [hsome]; exact hi) (by rw [hsome]; exact hj)⟩, hs.size, hs.defers, fun n => ?_⟩
  · rw [hok]
    rcases hcase i with h1 | ⟨B0, B1, h1, h2, h3⟩
    · exact hs.hc.blk i B (h1.trans hB)
    · rw [h2] at hB; cases hB
      have hb := hs.hc.blk i B0 h1
      rcases h3 with rfl | ⟨e, l0, l1, rfl, rfl, hl⟩
      · exact hb
      · obtain ⟨b, cs, k1, k2, k3, k4⟩ := hb
        exact ⟨b, cs, k1, k2, k3, hl.vr k4⟩
  · rw [hok]
    exact (hF.lk n).vr (hs.slots n)
end Go.Proofs.Ytmnpdipiffmnhaa

set_option linter.unusedVariables false
set_option linter.unusedSimpArgs false
set_option maxRecDepth 20000
set_option maxHeartbeats 8000000
namespace Go.Proofs.Ytmnpdipiffmnhaa
open Go.Aw

/-! ### bands of ways ahead: the plain law -/
def sdN (sd : Nat) : Nat := (1664525 * sd + 1013904223) % 4294967296
def sdI (sd : Nat) : Nat → Nat
  | 0 => sd
  | n + 1 => sdN (sdI sd n)
theorem sdI_0 (sd : Nat) : sdI sd 0 = sd := rfl
theorem sdI_S (sd n : Nat) : sdI sd (n + 1) = sdN (sdI sd n) := rfl
theorem sdI_add (sd a : Nat) : ∀ b, sdI (sdI sd a) b = sdI sd (a + b)
  | 0 => rfl
  | b + 1 => by rw [sdI_S, sdI_add sd a b, ← Nat.add_assoc, sdI_S]
theorem sdN_lt (sd : Nat) : sdN sd < 4294967296 := Nat.mod_lt _ (by decide)
theorem sdI_lt {sd : Nat} (h : sd < 4294967296) : ∀ n, sdI sd n < 4294967296
  | 0 => h
  | n + 1 => sdN_lt _
/-- the miss that a seed tells -/
def miA (m : List Nat) (sd : Nat) : Nat := sd * m.length / 4294967296
theorem miA_lt {m : List Nat} {sd : Nat} (h : sd < 4294967296) (hm : 1 ≤ m.length) : miA m sd < m.length := by
  unfold miA
  refine Nat.div_lt_of_lt_mul ?_
  rw [Nat.mul_comm 4294967296]
  exact Nat.mul_comm sd m.length ▸ Nat.mul_lt_mul_of_pos_left h (by omega)
def bnS (s : ST) (h : SH) (m : List Nat) (sd : Nat) : Nat → ST
  | 0 => s
  | k + 1 => nxF (bnS s h m sd k) h (fop .add .f32 (gsF (bnS s h m sd k) h) (m.getD (miA m (sdI sd (k + 1))) 0))
def bnX (s : ST) (h : SH) (m : List Nat) (sd k : Nat) : Nat := fop .add .f32 (gsF (bnS s h m sd k) h) (m.getD (miA m (sdI sd (k + 1))) 0)
theorem bnS_S (s : ST) (h : SH) (m : List Nat) (sd k : Nat) : bnS s h m sd (k + 1) = nxF (bnS s h m sd k) h (bnX s h m sd k) := rfl
def bnO (s : ST) (h : SH) (m : List Nat) (sd k : Nat) : Bool := fin (bnX s h m sd k) && fin (erF (bnS s h m sd k) h (bnX s h m sd k)) && validS (bnS s h m sd (k + 1))
theorem bnS_valid {s : ST} {h : SH} {m : List Nat} {sd : Nat} (hs : validS s = true) : ∀ {k : Nat}, (∀ j, j < k → bnO s h m sd j = true) → validS (bnS s h m sd k) = true
  | 0, _ => hs
  | k + 1, hk => by
    have := hk k (Nat.lt_succ_self k)
    unfold bnO at this
    rw [Bool.and_eq_true] at this
    exact this.2
theorem bad_add_l3 {a : Nat} (b : Nat) (h : fin a = false) : fin (fop .add .f32 a b) = false := by rw [fin_RB] at *; exact bad_add_l b h
theorem bnO_gs {s : ST} {h : SH} {m : List Nat} {sd k : Nat} (hk : bnO s h m sd k = true) : fin (gsF (bnS s h m sd k) h) = true := by
  cases hg : fin (gsF (bnS s h m sd k) h) with
  | true => rfl
  | false =>
    have := bad_add_l3 (m.getD (miA m (sdI sd (k + 1))) 0) hg
    unfold bnO bnX at hk
    rw [this] at hk; cases hk
theorem bnO_full {s : ST} {h : SH} {m : List Nat} {sd k : Nat} (h1 : validS (bnS s h m sd k) = true) (h2 : validH h = true) (h3 : fin (gsF (bnS s h m sd k) h) = true) : spFull (bnS s h m sd k) h (bnX s h m sd k) = bnO s h m sd k := by
  unfold spFull bnO
  rw [h1, h2, h3, bnS_S]
  cases fin (bnX s h m sd k) <;> cases fin (erF (bnS s h m sd k) h (bnX s h m sd k)) <;> cases validS (nxF (bnS s h m sd k) h (bnX s h m sd k)) <;> rfl
def bcL (s : ST) (h : SH) (m : List Nat) (sd C D k : Nat) : List Nat := (List.range D).map fun d => bnX s h m (sdI sd (d * C)) k
theorem bcL_len (s : ST) (h : SH) (m : List Nat) (sd C D k : Nat) : (bcL s h m sd C D k).length = D := by simp [bcL]
theorem bcL_S (s : ST) (h : SH) (m : List Nat) (sd C D k : Nat) : bcL s h m sd C D k ++ [bnX s h m (sdI sd (D * C)) k] = bcL s h m sd C (D + 1) k := by simp [bcL, List.range_succ]
theorem bcL_F32 (s : ST) (h : SH) (m : List Nat) (sd C D k : Nat) : ∀ x ∈ bcL s h m sd C D k, F32 x := fun x hx => by
  obtain ⟨d, _, rfl⟩ := List.mem_map.1 hx
  exact F32_fop _ _ _
def bOk (s : ST) (h : SH) (m : List Nat) (sd C D : Nat) : Bool := (List.range D).all fun d => (List.range C).all (bnO s h m (sdI sd (d * C)))
theorem bOk_no {s : ST} {h : SH} {m : List Nat} {sd C D d k : Nat} (hd : d < D) (hk : k < C) (hf : bnO s h m (sdI sd (d * C)) k = false) : bOk s h m sd C D = false := by
  cases hb : bOk s h m sd C D with
  | false => rfl
  | true =>
    have h1 := List.all_eq_true.1 hb d (List.mem_range.2 hd)
    have h2 := List.all_eq_true.1 h1 k (List.mem_range.2 hk)
    rw [hf] at h2; cases h2
theorem bOk_at {s : ST} {h : SH} {m : List Nat} {sd C D d k : Nat} (hb : bOk s h m sd C D = true) (hd : d < D) (hk : k < C) : bnO s h m (sdI sd (d * C)) k = true :=
  List.all_eq_true.1 (List.all_eq_true.1 hb d (List.mem_range.2 hd)) k (List.mem_range.2 hk)
theorem bOk_of {s : ST} {h : SH} {m : List Nat} {sd C D : Nat} (hb : ∀ d, d < D → ∀ k, k < C → bnO s h m (sdI sd (d * C)) k = true) : bOk s h m sd C D = true :=
  List.all_eq_true.2 fun d hd => List.all_eq_true.2 fun k hk => hb d (List.mem_range.1 hd) k (List.mem_range.1 hk)
theorem bcL_ser {s : ST} {h : SH} {m : List Nat} {sd C D k : Nat} (hb : bOk s h m sd C D = true) (hD : 1 ≤ D) (hD2 : D ≤ 64) (hk : k < C) : isSer (bcL s h m sd C D k) = true := by
  unfold isSer
  rw [bcL_len]
  have h3 : (bcL s h m sd C D k).all fin = true := List.all_eq_true.2 fun x hx => by
    obtain ⟨d, hd, rfl⟩ := List.mem_map.1 hx
    have := bOk_at hb (List.mem_range.1 hd) hk
    unfold bnO at this
    rw [Bool.and_eq_true, Bool.and_eq_true] at this
    exact this.1.1
  rw [h3]; simp; omega
def bqL (s : ST) (h : SH) (m : List Nat) (sd C D sh : Nat) : List Nat := (List.range C).map fun k => quantG (bcL s h m sd C D k) sh
theorem bqL_len (s : ST) (h : SH) (m : List Nat) (sd C D sh : Nat) : (bqL s h m sd C D sh).length = C := by simp [bqL]
theorem bqL_get {s : ST} {h : SH} {m : List Nat} {sd C D sh k : Nat} (hk : k < C) : (bqL s h m sd C D sh).getD k 0 = quantG (bcL s h m sd C D k) sh := getD_mapR _ hk
structure BD where
  o : List Nat
  sd : Int
  ok : Bool
def bdOk (s : ST) (h : SH) (m : List Nat) (C D sd : Int) (sh : Nat) : Bool := validS s && validH h && isSer m && inR C 1 32 && inR D 1 64 && inR sd 0 4294967295 && isShr sh && bOk s h m sd.toNat C.toNat D.toNat && (bqL s h m sd.toNat C.toNat D.toNat sh).all fin
def bandsF (s : ST) (h : SH) (m : List Nat) (C D sd : Int) (sh : Nat) : BD := if bdOk s h m C D sd sh then ⟨bqL s h m sd.toNat C.toNat D.toNat sh, (sdI sd.toNat (D.toNat * C.toNat) : Nat), true⟩ else ⟨[], 0, false⟩
abbrev bdR (v : BD) : RV := .tup [.own 0 v.o.length, .t (.v (.int .i64 v.sd)), .t (.v (.bool v.ok))]
abbrev bdH (v : BD) : List (Nat × Blk) := [(0, .sl 30 (.fl v.o))]
theorem bandsF_no {s : ST} {h : SH} {m : List Nat} {C D sd : Int} {sh : Nat} (hc : ¬ (validS s = true ∧ validH h = true ∧ isSer m = true ∧ inR C 1 32 = true ∧ inR D 1 64 = true ∧ inR sd 0 4294967295 = true ∧ isShr sh = true ∧ bOk s h m sd.toNat C.toNat D.toNat = true ∧ (bqL s h m sd.toNat C.toNat D.toNat sh).all fin = true)) :
    bandsF s h m C D sd sh = ⟨[], 0, false⟩ := by
  unfold bandsF; rw [if_neg]; intro hk; apply hc
  unfold bdOk at hk
  simpa only [Bool.and_eq_true, and_assoc] using hk
theorem bandsF_yes {s : ST} {h : SH} {m : List Nat} {C D sd : Nat} {sh : Nat} (h1 : validS s = true) (h2 : validH h = true) (h3 : isSer m = true) (h4 : inR (C : Int) 1 32 = true) (h5 : inR (D : Int) 1 64 = true) (h6 : inR (sd : Int) 0 4294967295 = true) (h7 : isShr sh = true) (h8 : bOk s h m sd C D = true) (h9 : (bqL s h m sd C D sh).all fin = true) :
    bandsF s h m (C : Int) (D : Int) (sd : Int) sh = ⟨bqL s h m sd C D sh, (sdI sd (D * C) : Nat), true⟩ := by
  unfold bandsF bdOk
  simp only [Int.toNat_natCast]
  rw [h1, h2, h3, h4, h5, h6, h7, h8, h9]; rfl
end Go.Proofs.Ytmnpdipiffmnhaa

set_option linter.unusedVariables false
set_option linter.unusedSimpArgs false
set_option maxRecDepth 20000
set_option maxHeartbeats 8000000
namespace Go.Proofs.Ytmnpdipiffmnhaa
open Go.Aw

/-! ### quantiles rise with their share -/
/-- a whole number of the least units, not too many, is a word's -/
theorem small_word {D : Nat} (h : D ≤ 16777216) : ∃ c, Fnt .f32 c ∧ rv .f32 c = (D : Rat) * uU .f32 := by
  have ei : FloatKind.f32.format.infRung = 2139095040 := by decide
  have eb : FloatKind.f32.format.binade = 8388608 := by decide
  refine ⟨FloatKind.f32.format.word false D, Fn_word .f32 false (by omega), ?_⟩
  rw [rv_word .f32 false (by omega), if_neg Bool.false_ne_true]
  unfold rvR
  congr 1
  have : valR FloatKind.f32.format D = D := by
    unfold valR
    rw [eb]
    by_cases h1 : D < 8388608
    · rw [if_pos h1]
    · rw [if_neg h1]
      rcases Nat.lt_or_eq_of_le h with h2 | h2
      · rw [show D / 8388608 = 1 by omega, show D % 8388608 = D - 8388608 by omega]; omega
      · subst h2; rfl
  rw [this]
theorem cast_gen {K D : Nat} (h : K ≤ D) : ((K : Nat) : Rat) ≤ ((D : Int) : Rat) := by
  have : ((K : Int) : Rat) ≤ ((D : Int) : Rat) := by exact_mod_cast h
  exact this
theorem cast_ge {D : Nat} (h : 16777216 ≤ D) : (16777216 : Rat) ≤ ((D : Int) : Rat) := cast_gen h
theorem rv_units (c : Nat) : ∃ z : Int, rv .f32 c = (z : Rat) * uU .f32 := ⟨_, rfl⟩
theorem u_pos : 0 < uU .f32 := uU_pos .f32
/-- the difference of two words is exact where it is small -/
theorem sub_small {a b : Nat} (ha : Fnt .f32 a) (hb : Fnt .f32 b) (h0 : rv .f32 b ≤ rv .f32 a) : Fnt .f32 (fop .sub .f32 a b) → rv .f32 (fop .sub .f32 a b) = rv .f32 a - rv .f32 b ∨ 16777216 * uU .f32 ≤ rv .f32 a - rv .f32 b := fun hf => by
  obtain ⟨x, hx⟩ := rv_units a
  obtain ⟨y, hy⟩ := rv_units b
  have hu := u_pos
  have hd : rv .f32 a - rv .f32 b = ((x - y : Int) : Rat) * uU .f32 := by rw [hx, hy]; push_cast; grind
  have hxy : y ≤ x := by
    rcases Int.lt_or_le x y with h | h
    · exfalso
      have h1 : (x : Rat) < (y : Rat) := by exact_mod_cast h
      have h2 := Rat.mul_lt_mul_of_pos_right h1 hu
      rw [← hx, ← hy] at h2
      exact absurd h0 (Rat.not_le.2 h2)
    · exact h
  obtain ⟨D, hD⟩ : ∃ D : Nat, x - y = (D : Int) := ⟨(x - y).toNat, by omega⟩
  rw [hD] at hd
  rcases Nat.le_total D 16777216 with h | h
  · left
    obtain ⟨c, hc, hcv⟩ := small_word h
    have := (sub_rds ha hb).exact hc hf (by rw [hd, hcv]; rfl)
    rw [this, hcv, hd]; rfl
  · right
    rw [hd]
    have h1 : (16777216 : Rat) ≤ ((D : Int) : Rat) := cast_ge h
    exact Rat.mul_le_mul_of_nonneg_right h1 (Rat.le_of_lt hu)
def Bnd (c : Nat) : Prop := Fnt .f32 c ∧ rv .f32 c ≤ 1000000000000000 ∧ -1000000000000000 ≤ rv .f32 c
theorem top_ge : 1000000000000000000000000000000 ≤ topR .f32 := top32
/-- a number between two others, told by how far -/
def btw (s0 s1 f : Nat) : Nat := fop .add .f32 s0 (fop .mul .f32 f (fop .sub .f32 s1 s0))
structure BtF (s0 s1 f : Nat) : Prop where
  fd : Fnt .f32 (fop .sub .f32 s1 s0)
  d0 : 0 ≤ rv .f32 (fop .sub .f32 s1 s0)
  fm : Fnt .f32 (fop .mul .f32 f (fop .sub .f32 s1 s0))
  m0 : 0 ≤ rv .f32 (fop .mul .f32 f (fop .sub .f32 s1 s0))
  m1 : rv .f32 (fop .mul .f32 f (fop .sub .f32 s1 s0)) ≤ rv .f32 s1 - rv .f32 s0
  fv : Fnt .f32 (btw s0 s1 f)
  v0 : rv .f32 s0 ≤ rv .f32 (btw s0 s1 f)
  v1 : rv .f32 (btw s0 s1 f) ≤ rv .f32 s1
theorem btw_ok {s0 s1 f : Nat} (h0 : Bnd s0) (h1 : Bnd s1) (h : rv .f32 s0 ≤ rv .f32 s1) (hf : Fnt .f32 f) (f0 : 0 ≤ rv .f32 f) (f1 : rv .f32 f ≤ 3 / 4) : BtF s0 s1 f := by
  have ht := top_ge
  have hu := u_pos
  obtain ⟨b0, b1, b2⟩ := h0
  obtain ⟨c0, c1, c2⟩ := h1
  obtain ⟨_, _, z3, z4⟩ := one_01
  have rd := sub_rds c0 b0
  have fd := rd.fin (by grind) (by grind)
  have d0 := rd.ge z3 fd (by rw [z4]; grind)
  rw [z4] at d0
  obtain ⟨_, e1, e2⟩ := rd.err (M := rv .f32 s1 - rv .f32 s0) (by grind) (by grind) (by grind)
  rw [ep32] at e1 e2
  have hsm := sub_small c0 b0 h fd
  have rm := mul_rds hf fd
  have p0 : 0 ≤ rv .f32 f * rv .f32 (fop .sub .f32 s1 s0) := Rat.mul_nonneg f0 d0
  have p1 : rv .f32 f * rv .f32 (fop .sub .f32 s1 s0) ≤ 3 / 4 * rv .f32 (fop .sub .f32 s1 s0) := Rat.mul_le_mul_of_nonneg_right f1 d0
  have hul : uU .f32 ≤ 1 / 1000000000000000000000000000000000000000 := u32
  have hdl : rv .f32 (fop .sub .f32 s1 s0) ≤ 1000000000000000000 := by grind
  have fm := rm.fin (by grind) (by grind)
  have m0 := rm.ge z3 fm (by rw [z4]; exact p0)
  rw [z4] at m0
  have m1' := rm.le fd fm (by grind)
  have m1 : rv .f32 (fop .mul .f32 f (fop .sub .f32 s1 s0)) ≤ rv .f32 s1 - rv .f32 s0 := by
    rcases hsm with hs | hs
    · rw [← hs]; exact m1'
    · obtain ⟨_, g1, g2⟩ := rm.err (M := 3 / 4 * rv .f32 (fop .sub .f32 s1 s0)) p1 (by grind) (by grind)
      rw [ep32] at g1 g2
      grind
  have ra := add_rds b0 fm
  have fv := ra.fin (by grind) (by grind)
  exact ⟨fd, d0, fm, m0, m1, fv, ra.ge b0 fv (by grind), ra.le c0 fv (by grind)⟩
end Go.Proofs.Ytmnpdipiffmnhaa

