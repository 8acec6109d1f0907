import Derived.Test.YtmnpdipiffmnhaaXT167
import Derived.Test.YtmnpdipiffmnhaaXT118t
import Derived.Test.YtmnpdipiffmnhaaXT60
import Derived.Test.YtmnpdipiffmnhaaZAwN
set_option linter.unusedVariables false
set_option linter.unusedSimpArgs false
set_option maxRecDepth 20000
set_option maxHeartbeats 8000000
namespace Go.Proofs.Ytmnpdipiffmnhaa
open Go.Aw

/-! ### what has been handed over, or made, as what was there -/
def OldV (v0 v : AV) : Prop := v0 = v ∨ ∃ t, v = .old t ∧ (v0 = .t t ∨ (∃ i, v0 = .arg i t) ∨ ∃ i j, v0 = .argc i j t)
def OldL : List AV → List AV → Prop
  | [], [] => True
  | v :: r, u :: q => OldV v u ∧ OldL r q
  | _, _ => False
def OldB (B0 B : Blk) : Prop := B0 = B ∨ ∃ e l l', B0 = .box e l ∧ B = .box e l' ∧ OldL l l'
def OldF : List (Nat × AV) → List (Nat × AV) → Prop
  | [], [] => True
  | (i, v) :: r, (j, u) :: q => i = j ∧ OldV v u ∧ OldF r q
  | _, _ => False
def OldH : List (Nat × Blk) → List (Nat × Blk) → Prop
  | [], [] => True
  | (i, v) :: r, (j, u) :: q => i = j ∧ OldB v u ∧ OldH r q
  | _, _ => False
theorem OldV.vr {vs : Env} {w : World} {μ : Nat → Option Nat} {ok : Nat → Prop} {v0 v : AV} {y : Value} (h : OldV v0 v) (hy : VR vs w μ ok v0 y) : VR vs w μ ok v y := by
  rcases h with rfl | ⟨t, rfl, rfl | ⟨i, rfl⟩ | ⟨i, j, rfl⟩⟩
  · exact hy
  · rw [VR] at *; exact TR.mono (fun b hb h => ⟨hb, h.1, rfl⟩) _ _ hy
  · rw [VR] at *; exact TR.mono (fun b hb h => ⟨hb, h.1, rfl⟩) _ _ hy.2
  · rw [VR] at *; exact TR.mono (fun b hb h => ⟨hb, h.1, rfl⟩) _ _ hy.2
theorem OldL.vr {vs : Env} {w : World} {μ : Nat → Option Nat} {ok : Nat → Prop} : ∀ {l l' : List AV} {ys : List Value}, OldL l l' → VRl vs w μ ok l ys → VRl vs w μ ok l' ys
  | [], [], _, _, h => h
  | v :: r, u :: q, ys, h, hy => by
    simp only [VRl] at hy ⊢
    obtain ⟨x, zs, rfl, h1, h2⟩ := hy
    exact ⟨x, zs, rfl, h.1.vr h1, OldL.vr h.2 h2⟩
theorem OldF.lk : ∀ {α α' : List (Nat × AV)}, OldF α α' → ∀ n, OldV (lkF α n) (lkF α' n)
  | [], [], _, n => .inl rfl
  | (i, v) :: r, (j, u) :: q, h, n => by
    obtain ⟨rfl, h1, h2⟩ := h
    simp only [lkF]
    cases Nat.beq n i
    · exact OldF.lk h2 n
    · exact h1
theorem OldH.lk : ∀ {l l' : List (Nat × Blk)}, OldH l l' → ∀ n, (lkH l n = none ∧ lkH l' n = none) ∨ ∃ B B', lkH l n = some B ∧ lkH l' n = some B' ∧ OldB B B'
  | [], [], _, n => .inl ⟨rfl, rfl⟩
  | (i, v) :: r, (j, u) :: q, h, n => by
    obtain ⟨rfl, h1, h2⟩ := h
    simp only [lkH]
    cases Nat.beq n i
    · exact OldH.lk h2 n
    · exact .inr ⟨v, u, rfl, rfl, h1⟩
theorem awp_old {P : Program} {N : Nat} {Q : Exit → Fr → Hp → Prop} {c : Code} {α : List (Nat × AV)} {l : List (Nat × Blk)} {fm : Hp} (α' : List (Nat × AV)) (l' : List (Nat × Blk)) (hF : OldF α α') (hH : OldH l l') (h : AWp P N c Q (lkF α') (ovH (lkH l') fm)) : AWp P N c Q (lkF α) (ovH (lkH l) fm) := by
  intro vs w0 μ a w hs
  have hcase : ∀ n, (ovH (lkH l) fm n = ovH (lkH l') fm n) ∨ ∃ B B', ovH (lkH l) fm n = some B ∧ ovH (lkH l') fm n = some B' ∧ OldB B B' := fun n => by
    rcases Nat.lt_or_ge n bigN with hn | hn
    · rw [ovH_lt hn, ovH_lt hn]
      rcases hH.lk n with ⟨h1, h2⟩ | hh
      · exact .inl (h1.trans h2.symm)
      · exact .inr hh
    · rw [ovH_ge hn, ovH_ge hn]; exact .inl rfl
  have hsome : ∀ n, (ovH (lkH l) fm n).isSome = (ovH (lkH l') fm n).isSome := fun n => by
    rcases hcase n with h1 | ⟨B, B', h1, h2, _⟩
    · rw [h1]
    · rw [h1, h2]; rfl
  have hok : okOf μ (ovH (lkH l') fm) = okOf μ (ovH (lkH l) fm) := by
    funext b; unfold okOf
    simp only [hsome]
  refine h vs w0 μ a w ⟨⟨hs.hc.base, hs.hc.below, fun i B hB => ?_, fun i j b hi hj => hs.hc.inj i j b (by rw [hsome]; exact hi) (by rw [hsome]; exact hj)⟩, hs.size, hs.defers, fun n => ?_⟩
  · rw [hok]
    rcases hcase i with h1 | ⟨B0, B1, h1, h2, h3⟩
    · exact hs.hc.blk i B (h1.trans hB)
    · rw [h2] at hB; cases hB
      have hb := hs.hc.blk i B0 h1
      rcases h3 with rfl | ⟨e, l0, l1, rfl, rfl, hl⟩
      · exact hb
      · obtain ⟨b, cs, k1, k2, k3, k4⟩ := hb
        exact ⟨b, cs, k1, k2, k3, hl.vr k4⟩
  · rw [hok]
    exact (hF.lk n).vr (hs.slots n)
end Go.Proofs.Ytmnpdipiffmnhaa

set_option linter.unusedVariables false
set_option linter.unusedSimpArgs false
set_option maxRecDepth 20000
set_option maxHeartbeats 8000000
namespace Go.Proofs.Ytmnpdipiffmnhaa
open Go.Aw

/-! ### bands of ways ahead: the plain law -/
def sdN (sd : Nat) : Nat := (1664525 * sd + 1013904223) % 4294967296
def sdI (sd : Nat) : Nat → Nat
  | 0 => sd
  | n + 1 => sdN (sdI sd n)
theorem sdI_0 (sd : Nat) : sdI sd 0 = sd := rfl
theorem sdI_S (sd n : Nat) : sdI sd (n + 1) = sdN (sdI sd n) := rfl
theorem sdI_add (sd a : Nat) : ∀ b, sdI (sdI sd a) b = sdI sd (a + b)
  | 0 => rfl
  | b + 1 => by rw [sdI_S, sdI_add sd a b, ← Nat.add_assoc, sdI_S]
theorem sdN_lt (sd : Nat) : sdN sd < 4294967296 := Nat.mod_lt _ (by decide)
theorem sdI_lt {sd : Nat} (h : sd < 4294967296) : ∀ n, sdI sd n < 4294967296
  | 0 => h
  | n + 1 => sdN_lt _
/-- the miss that a seed tells -/
def miA (m : List Nat) (sd : Nat) : Nat := sd * m.length / 4294967296
theorem miA_lt {m : List Nat} {sd : Nat} (h : sd < 4294967296) (hm : 1 ≤ m.length) : miA m sd < m.length := by
  unfold miA
  refine Nat.div_lt_of_lt_mul ?_
  rw [Nat.mul_comm 4294967296]
  exact Nat.mul_comm sd m.length ▸ Nat.mul_lt_mul_of_pos_left h (by omega)
def bnS (s : ST) (h : SH) (m : List Nat) (sd : Nat) : Nat → ST
  | 0 => s
  | k + 1 => nxF (bnS s h m sd k) h (fop .add .f32 (gsF (bnS s h m sd k) h) (m.getD (miA m (sdI sd (k + 1))) 0))
def bnX (s : ST) (h : SH) (m : List Nat) (sd k : Nat) : Nat := fop .add .f32 (gsF (bnS s h m sd k) h) (m.getD (miA m (sdI sd (k + 1))) 0)
theorem bnS_S (s : ST) (h : SH) (m : List Nat) (sd k : Nat) : bnS s h m sd (k + 1) = nxF (bnS s h m sd k) h (bnX s h m sd k) := rfl
def bnO (s : ST) (h : SH) (m : List Nat) (sd k : Nat) : Bool := fin (bnX s h m sd k) && fin (erF (bnS s h m sd k) h (bnX s h m sd k)) && validS (bnS s h m sd (k + 1))
theorem bnS_valid {s : ST} {h : SH} {m : List Nat} {sd : Nat} (hs : validS s = true) : ∀ {k : Nat}, (∀ j, j < k → bnO s h m sd j = true) → validS (bnS s h m sd k) = true
  | 0, _ => hs
  | k + 1, hk => by
    have := hk k (Nat.lt_succ_self k)
    unfold bnO at this
    rw [Bool.and_eq_true] at this
    exact this.2
theorem bad_add_l3 {a : Nat} (b : Nat) (h : fin a = false) : fin (fop .add .f32 a b) = false := by rw [fin_RB] at *; exact bad_add_l b h
theorem bnO_gs {s : ST} {h : SH} {m : List Nat} {sd k : Nat} (hk : bnO s h m sd k = true) : fin (gsF (bnS s h m sd k) h) = true := by
  cases hg : fin (gsF (bnS s h m sd k) h) with
  | true => rfl
  | false =>
    have := bad_add_l3 (m.getD (miA m (sdI sd (k + 1))) 0) hg
    unfold bnO bnX at hk
    rw [this] at hk; cases hk
theorem bnO_full {s : ST} {h : SH} {m : List Nat} {sd k : Nat} (h1 : validS (bnS s h m sd k) = true) (h2 : validH h = true) (h3 : fin (gsF (bnS s h m sd k) h) = true) : spFull (bnS s h m sd k) h (bnX s h m sd k) = bnO s h m sd k := by
  unfold spFull bnO
  rw [h1, h2, h3, bnS_S]
  cases fin (bnX s h m sd k) <;> cases fin (erF (bnS s h m sd k) h (bnX s h m sd k)) <;> cases validS (nxF (bnS s h m sd k) h (bnX s h m sd k)) <;> rfl
/-- a way ahead, the numbers of all ways k steps ahead -/
def bwR (s : ST) (h : SH) (m : List Nat) (sd C d : Nat) : List Nat := (List.range C).map (bnX s h m (sdI sd (d * C)))
def bcL (s : ST) (h : SH) (m : List Nat) (sd C D k : Nat) : List Nat := (List.range D).map fun d => bnX s h m (sdI sd (d * C)) k
theorem bwR_len (s : ST) (h : SH) (m : List Nat) (sd C d : Nat) : (bwR s h m sd C d).length = C := by simp [bwR]
theorem bwR_get {s : ST} {h : SH} {m : List Nat} {sd C d k : Nat} (hk : k < C) : (bwR s h m sd C d).getD k 0 = bnX s h m (sdI sd (d * C)) k := getD_mapR _ hk
theorem bcL_len (s : ST) (h : SH) (m : List Nat) (sd C D k : Nat) : (bcL s h m sd C D k).length = D := by simp [bcL]
theorem bcL_S (s : ST) (h : SH) (m : List Nat) (sd C D k : Nat) : bcL s h m sd C D k ++ [bnX s h m (sdI sd (D * C)) k] = bcL s h m sd C (D + 1) k := by simp [bcL, List.range_succ]
theorem bcL_F32 (s : ST) (h : SH) (m : List Nat) (sd C D k : Nat) : ∀ x ∈ bcL s h m sd C D k, F32 x := fun x hx => by
  obtain ⟨d, _, rfl⟩ := List.mem_map.1 hx
  exact F32_fop _ _ _
def bOk (s : ST) (h : SH) (m : List Nat) (sd C D : Nat) : Bool := (List.range D).all fun d => (List.range C).all (bnO s h m (sdI sd (d * C)))
theorem bOk_no {s : ST} {h : SH} {m : List Nat} {sd C D d k : Nat} (hd : d < D) (hk : k < C) (hf : bnO s h m (sdI sd (d * C)) k = false) : bOk s h m sd C D = false := by
  cases hb : bOk s h m sd C D with
  | false => rfl
  | true =>
    have h1 := List.all_eq_true.1 hb d (List.mem_range.2 hd)
    have h2 := List.all_eq_true.1 h1 k (List.mem_range.2 hk)
    rw [hf] at h2; cases h2
theorem bOk_at {s : ST} {h : SH} {m : List Nat} {sd C D d k : Nat} (hb : bOk s h m sd C D = true) (hd : d < D) (hk : k < C) : bnO s h m (sdI sd (d * C)) k = true :=
  List.all_eq_true.1 (List.all_eq_true.1 hb d (List.mem_range.2 hd)) k (List.mem_range.2 hk)
theorem bOk_of {s : ST} {h : SH} {m : List Nat} {sd C D : Nat} (hb : ∀ d, d < D → ∀ k, k < C → bnO s h m (sdI sd (d * C)) k = true) : bOk s h m sd C D = true :=
  List.all_eq_true.2 fun d hd => List.all_eq_true.2 fun k hk => hb d (List.mem_range.1 hd) k (List.mem_range.1 hk)
theorem bcL_ser {s : ST} {h : SH} {m : List Nat} {sd C D k : Nat} (hb : bOk s h m sd C D = true) (hD : 1 ≤ D) (hD2 : D ≤ 64) (hk : k < C) : isSer (bcL s h m sd C D k) = true := by
  unfold isSer
  rw [bcL_len]
  have h3 : (bcL s h m sd C D k).all fin = true := List.all_eq_true.2 fun x hx => by
    obtain ⟨d, hd, rfl⟩ := List.mem_map.1 hx
    have := bOk_at hb (List.mem_range.1 hd) hk
    unfold bnO at this
    rw [Bool.and_eq_true, Bool.and_eq_true] at this
    exact this.1.1
  rw [h3]; simp; omega
def bqL (s : ST) (h : SH) (m : List Nat) (sd C D sh : Nat) : List Nat := (List.range C).map fun k => quantG (bcL s h m sd C D k) sh
theorem bqL_len (s : ST) (h : SH) (m : List Nat) (sd C D sh : Nat) : (bqL s h m sd C D sh).length = C := by simp [bqL]
theorem bqL_get {s : ST} {h : SH} {m : List Nat} {sd C D sh k : Nat} (hk : k < C) : (bqL s h m sd C D sh).getD k 0 = quantG (bcL s h m sd C D k) sh := getD_mapR _ hk
structure BD where
  o : List Nat
  sd : Int
  ok : Bool
def bdOk (s : ST) (h : SH) (m : List Nat) (C D sd : Int) (sh : Nat) : Bool := validS s && validH h && isSer m && inR C 1 32 && inR D 1 64 && inR sd 0 4294967295 && isShr sh && bOk s h m sd.toNat C.toNat D.toNat && (bqL s h m sd.toNat C.toNat D.toNat sh).all fin
def bandsF (s : ST) (h : SH) (m : List Nat) (C D sd : Int) (sh : Nat) : BD := if bdOk s h m C D sd sh then ⟨bqL s h m sd.toNat C.toNat D.toNat sh, (sdI sd.toNat (D.toNat * C.toNat) : Nat), true⟩ else ⟨[], 0, false⟩
abbrev bdR (v : BD) : RV := .tup [.own 0 v.o.length, .t (.v (.int .i64 v.sd)), .t (.v (.bool v.ok))]
abbrev bdH (v : BD) : List (Nat × Blk) := [(0, .sl 30 (.fl v.o))]
theorem bandsF_no {s : ST} {h : SH} {m : List Nat} {C D sd : Int} {sh : Nat} (hc : ¬ (validS s = true ∧ validH h = true ∧ isSer m = true ∧ inR C 1 32 = true ∧ inR D 1 64 = true ∧ inR sd 0 4294967295 = true ∧ isShr sh = true ∧ bOk s h m sd.toNat C.toNat D.toNat = true ∧ (bqL s h m sd.toNat C.toNat D.toNat sh).all fin = true)) :
    bandsF s h m C D sd sh = ⟨[], 0, false⟩ := by
  unfold bandsF; rw [if_neg]; intro hk; apply hc
  unfold bdOk at hk
  simpa only [Bool.and_eq_true, and_assoc] using hk
theorem bandsF_yes {s : ST} {h : SH} {m : List Nat} {C D sd : Nat} {sh : Nat} (h1 : validS s = true) (h2 : validH h = true) (h3 : isSer m = true) (h4 : inR (C : Int) 1 32 = true) (h5 : inR (D : Int) 1 64 = true) (h6 : inR (sd : Int) 0 4294967295 = true) (h7 : isShr sh = true) (h8 : bOk s h m sd C D = true) (h9 : (bqL s h m sd C D sh).all fin = true) :
    bandsF s h m (C : Int) (D : Int) (sd : Int) sh = ⟨bqL s h m sd C D sh, (sdI sd (D * C) : Nat), true⟩ := by
  unfold bandsF bdOk
  simp only [Int.toNat_natCast]
  rw [h1, h2, h3, h4, h5, h6, h7, h8, h9]; rfl
theorem bandsF_len (s : ST) (h : SH) (m : List Nat) (C D sd : Int) (sh : Nat) : (bandsF s h m C D sd sh).o.length ≤ 32 := by
  unfold bandsF
  split
  · rename_i hk
    unfold bdOk at hk
    simp only [Bool.and_eq_true, and_assoc] at hk
    have := inR_t.1 hk.2.2.2.1
    simp only [bqL_len]; omega
  · simp
end Go.Proofs.Ytmnpdipiffmnhaa

