import Derived.Test.YtmnpdipiffmnhaaVT115
import Derived.Test.YtmnpdipiffmnhaaVT118t
import Derived.Test.YtmnpdipiffmnhaaVAwC
import Derived.Test.YtmnpdipiffmnhaaVAwB
import Derived.Test.YtmnpdipiffmnhaaVAwD
import Derived.Test.YtmnpdipiffmnhaaVT28
import Derived.Test.YtmnpdipiffmnhaaVT81s
import Derived.Test.YtmnpdipiffmnhaaVAwJ
set_option linter.unusedVariables false
set_option linter.unusedSimpArgs false
set_option maxRecDepth 20000
set_option maxHeartbeats 8000000
namespace Go.Proofs.Ytmnpdipiffmnhaa
open Go.Aw

/-! ### gaps -/
def gapR (a b : Nat) : Nat := fmx .f64 (fop .sub .f64 (fconv .f32 .f64 a) (fconv .f32 .f64 b)) (fop .sub .f64 (fconv .f32 .f64 b) (fconv .f32 .f64 a))
theorem gapR_le {a b : Nat} {ε : Rat} (ha : Bd a 1000) (hb : Bd b 1000) (h1 : rv .f32 a - rv .f32 b ≤ ε) (h2 : rv .f32 b - rv .f32 a ≤ ε) : Fnt .f64 (gapR a b) ∧ rv .f64 (gapR a b) ≤ ε + 1 / 100000000 := by
  have wa := W_fact ha (by unfold okM; constructor <;> grind)
  have wb := W_fact hb (by unfold okM; constructor <;> grind)
  have ha2 := ha.2; have hb2 := hb.2
  obtain ⟨e1, p1, p2, p3, p4⟩ := sub64 (M := 3000) wa.1 wb.1 (by grind) (by grind) (by unfold okM; constructor <;> grind)
  obtain ⟨e2, q1, q2, q3, q4⟩ := sub64 (M := 3000) wb.1 wa.1 (by grind) (by grind) (by unfold okM; constructor <;> grind)
  have hm := fmx_rv p4 q4
  refine ⟨hm.1, ?_⟩
  rcases fmx_or (k := .f64) (a := fop .sub .f64 (W a) (W b)) (b := fop .sub .f64 (W b) (W a)) with h | h | h
  · unfold gapR; rw [h, p1]; grind
  · unfold gapR; rw [h, q1]; grind
  · have := hm.1.notnan; rw [h] at this; exact absurd this (by decide +kernel)
theorem gap_gtr {a b : Nat} {ε : Rat} (ha : Bd a 1000) (hb : Bd b 1000) (h1 : rv .f32 a - rv .f32 b ≤ ε) (h2 : rv .f32 b - rv .f32 a ≤ ε) (hε : ε ≤ 998 / 1000000) : fcmp .gtr .f64 (gapR a b) 4562254508917369340 = false := by
  have h := gapR_le ha hb h1 h2
  rw [gtr_rv h.1 k001.1.1]
  exact decide_eq_false (by have := k001.1.2.1; grind)
/-! ### the middle -/
end Go.Proofs.Ytmnpdipiffmnhaa

set_option linter.unusedVariables false
set_option linter.unusedSimpArgs false
set_option maxRecDepth 20000
set_option maxHeartbeats 8000000
namespace Go.Proofs.Ytmnpdipiffmnhaa
open Go.Aw
attribute [local irreducible] QRun LexD AWp TCall TMut fop fint fcmp fconv

/-! ### the best shares -/
theorem n4 {s : Nat} (h : 1 ≤ s ∧ s ≤ 4) : (0 ≤ ((s : Int) + 1) * ((s : Int) + 1) ∧ ((s : Int) + 1) * ((s : Int) + 1) ≤ 25) ∧ (0 ≤ ((s : Int) + 1) * ((s : Int) + 1) * ((s : Int) + 1) ∧ ((s : Int) + 1) * ((s : Int) + 1) * ((s : Int) + 1) ≤ 125) ∧
    ((((s + 1) * (s + 1) * (s + 1) : Nat)) : Int) = ((s : Int) + 1) * ((s : Int) + 1) * ((s : Int) + 1) := by
  have h' : s = 1 ∨ s = 2 ∨ s = 3 ∨ s = 4 := by omega
  rcases h' with rfl | rfl | rfl | rfl <;> decide

end Go.Proofs.Ytmnpdipiffmnhaa

set_option linter.unusedVariables false
set_option linter.unusedSimpArgs false
set_option maxRecDepth 20000
set_option maxHeartbeats 8000000
namespace Go.Proofs.Ytmnpdipiffmnhaa
open Go.Aw

/-! ### what is drawn is bounded -/
def shW (c : Nat) : Bool := decide (c < 2 * FloatKind.f32.format.signWeight) && decide (c % FloatKind.f32.format.signWeight < FloatKind.f32.format.infRung) && decide (0 ≤ rv .f32 c) && decide (rv .f32 c ≤ 1) && isShr c
theorem shW_t {c : Nat} (h : shW c = true) : (Fnt .f32 c ∧ 0 ≤ rv .f32 c ∧ rv .f32 c ≤ 1) ∧ isShr c = true := by
  simp only [shW, Bool.and_eq_true, decide_eq_true_eq] at h
  exact ⟨⟨⟨h.1.1.1.1, h.1.1.1.2⟩, h.1.1.2, h.1.2⟩, h.2⟩
theorem shB_of {h : SH} (h1 : shW h.l = true) (h2 : shW h.s = true) (h3 : shW h.c = true) (h4 : shW h.d = true) : ShB h := by
  have a1 := shW_t h1; have a2 := shW_t h2; have a3 := shW_t h3; have a4 := shW_t h4
  exact ⟨by unfold validH; rw [a1.2, a2.2, a3.2, a4.2]; rfl, a1.1, a2.1, a3.1, a4.1⟩
theorem e8_tab2 : (List.range 9).all (fun n => shW (e8 (n : Int))) = true := by decide +kernel
theorem e8_sh {x : Int} (h : 0 ≤ x ∧ x < 9) : shW (e8 x) = true := by
  obtain ⟨n, rfl⟩ : ∃ n : Nat, x = (n : Int) := ⟨x.toNat, by omega⟩
  exact List.all_eq_true.1 e8_tab2 n (List.mem_range.2 (by omega))
theorem d8_tab : (List.range 4).all (fun n => shW (fop .sub .f32 1065353216 (e8 (n : Int)))) = true := by decide +kernel
theorem d8_sh {x : Int} (h : 0 ≤ x ∧ x < 4) : shW (fop .sub .f32 1065353216 (e8 x)) = true := by
  obtain ⟨n, rfl⟩ : ∃ n : Nat, x = (n : Int) := ⟨x.toNat, by omega⟩
  exact List.all_eq_true.1 d8_tab n (List.mem_range.2 (by omega))
theorem shD_b {l : List Nat} (h : Byt l) : ShB (shD l) :=
  shB_of (e8_sh (dvD_rng h 0 (by omega))) (e8_sh (dvD_rng h 1 (by omega))) (e8_sh (dvD_rng h 2 (by omega))) (d8_sh (dvD_rng h 3 (by omega)))
theorem hw_bd {x : Int} {m : Int} (h : -m ≤ x ∧ x ≤ m) (hm : m ≤ 512) : Bd (hw .f32 x) ((m : Rat) / 2) := by
  have h1 := hw_rv (x := x) (by omega)
  have h2 : (x : Rat) ≤ (m : Rat) := Rat.intCast_le_intCast.2 h.2
  have h3 : ((-m : Int) : Rat) ≤ (x : Rat) := Rat.intCast_le_intCast.2 h.1
  have h4 : ((-m : Int) : Rat) = -(m : Rat) := by push_cast; rfl
  rw [h4] at h3
  exact ⟨h1.1, by have := h1.2; grind, by have := h1.2; grind⟩
theorem hw_64 {x : Int} (h : -128 ≤ x ∧ x ≤ 128) : Bd (hw .f32 x) 64 := (hw_bd (m := 128) h (by omega)).mono (by have : ((128 : Int) : Rat) = 128 := rfl; grind)
theorem stD_b {l : List Nat} (h : Byt l) : StB 64 (stD l) := by
  have a0 := dvD_rng h 0 (n := 33) (by omega)
  have a1 := dvD_rng h 1 (n := 9) (by omega)
  have a2 := dvD_rng h 2 (n := 5) (by omega)
  have hn : 1 ≤ nSD l ∧ nSD l ≤ 5 := by unfold nSD; omega
  have hl : (stD l).se.length = nSD l := seD_len l (nSD l)
  refine ⟨hw_64 (by omega), ?_, fun i hi => ?_, by omega, ?_⟩
  · have h1 := q4_rv (x := dvD l 1 9 - 4) (by omega)
    have h2 : ((dvD l 1 9 - 4 : Int) : Rat) ≤ ((4 : Int) : Rat) := Rat.intCast_le_intCast.2 (by omega)
    have h3 : ((-4 : Int) : Rat) ≤ ((dvD l 1 9 - 4 : Int) : Rat) := Rat.intCast_le_intCast.2 (by omega)
    have h4 : ((4 : Int) : Rat) = 4 := rfl
    have h5 : ((-4 : Int) : Rat) = -4 := rfl
    rw [h4] at h2; rw [h5] at h3
    exact ⟨h1.1, by show rv .f32 (q4 _) ≤ _; have := h1.2; grind, by show _ ≤ rv .f32 (q4 _); have := h1.2; grind⟩
  · rw [hl] at hi
    show Bd ((seD l (nSD l)).getD i 0) 64
    rw [seD_get hi]
    have := dvD_rng h (3 + i) (n := 9) (by omega)
    exact hw_64 (by omega)
  · rw [hl]
    show 0 ≤ atD l (nSD l) ∧ atD l (nSD l) < _
    unfold atD
    split
    · omega
    · have := dvD_rng h (3 + nSD l) (n := ((nSD l : Nat) : Int)) (by omega); omega
/-- lists of halves -/
def HwL (a : List Nat) (x : Nat → Int) : Prop := ∀ i, i < a.length → a.getD i 0 = hw .f32 (x i) ∧ -128 ≤ x i ∧ x i ≤ 128
theorem HwL.bd {a : List Nat} {x : Nat → Int} (h : HwL a x) : ∀ i, i < a.length → Bd (a.getD i 0) 64 := fun i hi => by rw [(h i hi).1]; exact hw_64 (h i hi).2
theorem serL_hw {l : List Nat} (h : Byt l) {n : Nat} (hn : n ≤ 96) : HwL (serL l n) (serX l) := fun i hi => by
  rw [serL_len] at hi
  exact ⟨getD_mapR _ hi, serX_bd h i (by omega)⟩
/-! ### the start of a list with period one -/
/-! ### the best shares -/
end Go.Proofs.Ytmnpdipiffmnhaa

set_option linter.unusedVariables false
set_option linter.unusedSimpArgs false
set_option maxRecDepth 20000
set_option maxHeartbeats 4000000
namespace Go.Proofs.Ytmnpdipiffmnhaa
open Go.Aw

/-! ### numbers in order: the plain law -/
/-- what numbers are compared by -/
abbrev kk : Nat → Rat := rv .f32
def Srt (L : List Nat) : Prop := L.Pairwise fun x y => kk x ≤ kk y
/-- those of equal size stand in the same order -/
def SS (L L' : List Nat) : Prop := ∀ k : Rat, L'.filter (fun x => decide (kk x = k)) = L.filter (fun x => decide (kk x = k))
theorem SS.refl (L : List Nat) : SS L L := fun _ => rfl
theorem SS.trans {A B C : List Nat} (h1 : SS A B) (h2 : SS B C) : SS A C := fun k => (h2 k).trans (h1 k)
theorem SS.symm {A B : List Nat} (h : SS A B) : SS B A := fun k => (h k).symm
theorem SS.app {A A' B B' : List Nat} (h1 : SS A A') (h2 : SS B B') : SS (A ++ B) (A' ++ B') := fun k => by rw [List.filter_append, List.filter_append, h1 k, h2 k]
theorem SS.mem {A B : List Nat} (h : SS A B) {x : Nat} (hx : x ∈ B) : x ∈ A := by
  have : x ∈ B.filter (fun y => decide (kk y = kk x)) := List.mem_filter.2 ⟨hx, by simp⟩
  rw [h] at this
  exact (List.mem_filter.1 this).1
theorem filt_nil {A : List Nat} {k : Rat} (h : ∀ x ∈ A, kk x ≠ k) : A.filter (fun x => decide (kk x = k)) = [] := List.filter_eq_nil_iff.2 fun x hx => by simp [h x hx]
theorem SS.swap {A B : List Nat} (h : ∀ x ∈ A, ∀ y ∈ B, kk y < kk x) : SS (A ++ B) (B ++ A) := fun k => by
  rw [List.filter_append, List.filter_append]
  by_cases hk : ∃ x ∈ A, kk x = k
  · obtain ⟨x, hx, rfl⟩ := hk
    rw [filt_nil (A := B) fun y hy he => by have := h x hx y hy; rw [he] at this; exact absurd this (Rat.lt_irrefl)]
    simp
  · rw [filt_nil (A := A) fun x hx he => hk ⟨x, hx, he⟩]
    simp
theorem ss_unique : ∀ {L L' : List Nat}, Srt L → Srt L' → SS L L' → L' = L
  | [], [], _, _, _ => rfl
  | [], y :: t, _, _, h => by
    have := h.mem (x := y) (by simp); simp at this
  | x :: t, [], _, _, h => by
    have := h.symm.mem (x := x) (by simp); simp at this
  | x :: t, y :: t', h1, h2, h => by
    have h1' := List.pairwise_cons.1 h1
    have h2' := List.pairwise_cons.1 h2
    have hyx : kk y ≤ kk x := by
      have := h.symm.mem (x := x) (by simp)
      rcases List.mem_cons.1 this with e | e
      · rw [e]; exact Rat.le_refl
      · exact h2'.1 _ e
    have hxy : kk x ≤ kk y := by
      have := h.mem (x := y) (by simp)
      rcases List.mem_cons.1 this with e | e
      · rw [e]; exact Rat.le_refl
      · exact h1'.1 _ e
    have he : kk x = kk y := Rat.le_antisymm hxy hyx
    have h0 := h (kk x)
    rw [List.filter_cons_of_pos (by simp [he]), List.filter_cons_of_pos (by simp)] at h0
    obtain ⟨e1, e2⟩ := List.cons.inj h0
    subst e1
    rw [ss_unique h1'.2 h2'.2 fun k => by
      by_cases hk : kk y = k
      · rw [← hk]; exact e2
      · have := h k
        rwa [List.filter_cons_of_neg (by simpa using hk), List.filter_cons_of_neg (by simpa using hk)] at this]
/-- one number sinks -/
theorem sink_ins : ∀ (n : Nat) (A : List Nat) (x : Nat) (S : List Nat), A.length = n → (∀ y ∈ A, Fnt .f32 y) → Fnt .f32 x → Srt A →
    ∃ A1 A2, A = A1 ++ A2 ∧ sink n (A ++ x :: S) = A1 ++ x :: (A2 ++ S) ∧ (∀ y ∈ A1, kk y ≤ kk x) ∧ (∀ y ∈ A2, kk x < kk y)
  | 0, A, x, S, h, _, _, _ => by
    obtain rfl := List.length_eq_zero_iff.1 h
    exact ⟨[], [], rfl, rfl, by simp, by simp⟩
  | n + 1, A, x, S, h, hA, hx, hs => by
    rcases List.eq_nil_or_concat A with rfl | ⟨A', y, rfl⟩
    · simp at h
    simp only [List.concat_eq_append] at *
    have hl : A'.length = n := by simpa using h
    have hy : Fnt .f32 y := hA y (by simp)
    have e : A' ++ [y] ++ x :: S = A' ++ y :: x :: S := by simp
    have g1 : (A' ++ y :: x :: S).getD (n + 1) 0 = x := by rw [← hl]; simp [List.getD_eq_getElem?_getD]
    have g2 : (A' ++ y :: x :: S).getD n 0 = y := by rw [← hl]; simp [List.getD_eq_getElem?_getD]
    have hs' := List.pairwise_append.1 hs
    cases hc : fcmp .lss .f32 x y with
    | true =>
      have hsw : swp (A' ++ y :: x :: S) (n + 1) = A' ++ x :: y :: S := by
        unfold swp
        rw [g1, show n + 1 - 1 = n from rfl, g2, ← hl]
        simp [List.set_append]
      obtain ⟨A1, A2, q1, q2, q3, q4⟩ := sink_ins n A' x (y :: S) hl (fun z hz => hA z (by simp [hz])) hx hs'.1
      refine ⟨A1, A2 ++ [y], by rw [q1]; simp, ?_, q3, fun z hz => ?_⟩
      · rw [e, sink_t (by rw [g1, g2]; exact hc), hsw, q2]; simp
      · rcases List.mem_append.1 hz with hz | hz
        · exact q4 z hz
        · rw [lss_rv hx hy] at hc
          simp only [List.mem_singleton] at hz
          rw [hz]; simpa using hc
    | false =>
      refine ⟨A' ++ [y], [], by simp, ?_, fun z hz => ?_, by simp⟩
      · rw [e, sink_f (by rw [g1, g2]; exact hc)]; simp
      · rw [lss_rv hx hy] at hc
        have hyx : kk y ≤ kk x := by have := of_decide_eq_false hc; exact Rat.not_lt.1 this
        rcases List.mem_append.1 hz with hz | hz
        · exact Rat.le_trans (hs'.2.2 z hz y (by simp)) hyx
        · simp only [List.mem_singleton] at hz; rw [hz]; exact hyx
theorem ins_srt {A1 A2 : List Nat} {x : Nat} (h : Srt (A1 ++ A2)) (h1 : ∀ y ∈ A1, kk y ≤ kk x) (h2 : ∀ y ∈ A2, kk x < kk y) : Srt (A1 ++ x :: A2) := by
  have hp := List.pairwise_append.1 h
  refine List.pairwise_append.2 ⟨hp.1, List.pairwise_cons.2 ⟨fun y hy => Rat.le_of_lt (h2 y hy), hp.2.1⟩, fun a ha b hb => ?_⟩
  rcases List.mem_cons.1 hb with rfl | hb
  · exact h1 a ha
  · exact hp.2.2 a ha b hb
theorem ins_ss {A1 A2 : List Nat} {x : Nat} (h2 : ∀ y ∈ A2, kk x < kk y) : SS (A1 ++ A2 ++ [x]) (A1 ++ x :: A2) := by
  rw [List.append_assoc, show x :: A2 = [x] ++ A2 from rfl]
  exact (SS.refl A1).app (SS.swap fun a ha b hb => by simp only [List.mem_singleton] at hb; rw [hb]; exact h2 a ha)
theorem srt_ins (l : List Nat) (hf : ∀ x ∈ l, Fnt .f32 x) : ∀ k, k < l.length → ∃ L, srt l k = L ++ l.drop (k + 1) ∧ L.length = k + 1 ∧ Srt L ∧ SS (l.take (k + 1)) L
  | 0, h => by
    cases l with
    | nil => simp at h
    | cons x t => exact ⟨[x], by simp [srt], rfl, List.pairwise_singleton _ _, by simp [SS]⟩
  | k + 1, h => by
    obtain ⟨L, e, hl, hs, hss⟩ := srt_ins l hf k (by omega)
    have hm : ∀ y ∈ L, Fnt .f32 y := fun y hy => hf y (List.mem_of_mem_take (hss.mem hy))
    have hd : l.drop (k + 1) = l[k + 1] :: l.drop (k + 1 + 1) := List.drop_eq_getElem_cons h
    obtain ⟨A1, A2, q1, q2, q3, q4⟩ := sink_ins (k + 1) L l[k + 1] (l.drop (k + 1 + 1)) hl hm (hf _ (List.getElem_mem h)) hs
    refine ⟨A1 ++ l[k + 1] :: A2, by rw [srt, e, hd, q2]; simp, by rw [q1] at hl; simp at hl ⊢; omega, ins_srt (q1 ▸ hs) q3 q4, ?_⟩
    rw [List.take_succ_eq_append_getElem h]
    refine (hss.app (SS.refl _)).trans ?_
    rw [q1]
    exact ins_ss q4
theorem sortF_ok (l : List Nat) (hf : ∀ x ∈ l, Fnt .f32 x) : Srt (sortF l) ∧ SS l (sortF l) := by
  unfold sortF
  by_cases h : l.length = 0
  · obtain rfl := List.length_eq_zero_iff.1 h
    exact ⟨List.Pairwise.nil, SS.refl _⟩
  · obtain ⟨L, e, _, hs, hss⟩ := srt_ins l hf (l.length - 1) (by omega)
    rw [show l.length - 1 + 1 = l.length by omega, List.drop_length, List.append_nil] at e
    rw [show l.length - 1 + 1 = l.length by omega, List.take_length] at hss
    rw [e]; exact ⟨hs, hss⟩
theorem sortF_of {l l' : List Nat} (hf : ∀ x ∈ l, Fnt .f32 x) (h1 : Srt l') (h2 : SS l l') : l' = sortF l := by
  obtain ⟨g1, g2⟩ := sortF_ok l hf
  exact ss_unique g1 h1 (g2.symm.trans h2)
theorem sortF_id {l : List Nat} (hf : ∀ x ∈ l, Fnt .f32 x) (h : Srt l) : sortF l = l := (sortF_of hf h (SS.refl l)).symm
theorem sortF_mem {l : List Nat} (hf : ∀ x ∈ l, Fnt .f32 x) {x : Nat} (h : x ∈ sortF l) : x ∈ l := (sortF_ok l hf).2.mem h
/-- what a merge is made of -/
theorem merge_ok {A1 A2 B1 B2 : List Nat} (hf : ∀ x ∈ A1 ++ A2 ++ (B1 ++ B2), Fnt .f32 x) (hA : Srt (A1 ++ A2)) (hB : Srt (B1 ++ B2)) (h1 : ∀ x ∈ A2, ∀ y ∈ B1, kk y < kk x) (h2 : ∀ x ∈ A1, ∀ y ∈ B2, kk x ≤ kk y) :
    sortF (A1 ++ B1) ++ sortF (A2 ++ B2) = sortF (A1 ++ A2 ++ (B1 ++ B2)) := by
  have m1 : ∀ x ∈ A1 ++ B1, Fnt .f32 x := fun x hx => hf x (by simp at hx ⊢; grind)
  have m2 : ∀ x ∈ A2 ++ B2, Fnt .f32 x := fun x hx => hf x (by simp at hx ⊢; grind)
  have pA := List.pairwise_append.1 hA
  have pB := List.pairwise_append.1 hB
  refine sortF_of hf (List.pairwise_append.2 ⟨(sortF_ok _ m1).1, (sortF_ok _ m2).1, fun a ha b hb => ?_⟩) ?_
  · have ha := sortF_mem m1 ha
    have hb := sortF_mem m2 hb
    rcases List.mem_append.1 ha with ha | ha <;> rcases List.mem_append.1 hb with hb | hb
    · exact pA.2.2 a ha b hb
    · exact h2 a ha b hb
    · exact Rat.le_of_lt (h1 b hb a ha)
    · exact pB.2.2 a ha b hb
  · refine SS.trans ?_ ((sortF_ok _ m1).2.app (sortF_ok _ m2).2)
    have : SS (A1 ++ (A2 ++ B1) ++ B2) (A1 ++ (B1 ++ A2) ++ B2) := ((SS.refl A1).app (SS.swap h1)).app (SS.refl B2)
    simpa [List.append_assoc] using this
end Go.Proofs.Ytmnpdipiffmnhaa

