import Derived.Test.YtpdnjcblkjjegaaVT195
set_option linter.unusedVariables false
set_option linter.unusedSimpArgs false
set_option maxRecDepth 100000
set_option maxHeartbeats 16000000
namespace Go.Proofs.Ytpdnjcblkjjegaa
open Go.Aw

/-! ### the law FnRegimes -/
theorem half_F2 : F32 1056964608 := ⟨canon_not (by decide +kernel), by decide⟩
theorem wkN {l : List Nat} {k n : Int} (hn : 1 ≤ n) : ∃ x : Nat, b10F l k n = (x : Int) ∧ (x : Int) < n := b10N hn
theorem all_Fnt {l : List Nat} (h : ∀ i, i < l.length → Fnt .f32 (l.getD i 0)) : ∀ x ∈ l, Fnt .f32 x := fun x hx => by
  obtain ⟨i, hi, rfl⟩ := List.getElem_of_mem hx
  have := h i hi
  rwa [List.getD_eq_getElem?_getD, List.getElem?_eq_getElem hi] at this
theorem fnt_le {x : Nat} (h : x ≤ I1) : Fnt .f32 x := (rv_R (Nat.lt_of_le_of_lt h (by decide))).1
theorem RgI.same {a b c d s : List Nat} (h : RgI a b c d s) : and4R sameN a b c d a b c d = true := by
  have h1 := h.lb; have h2 := h.lc; have h3 := h.ld
  unfold and4R
  rw [allS_self, allS_self, allS_self, allS_self]; rfl
  · exact all_Fnt fun i hi => fnt_le (h.fd i (by omega))
  · exact all_Fnt fun i hi => fnt_le (h.fc i (by omega))
  · exact all_Fnt fun i hi => by
      obtain ⟨k, k1, k2, hk⟩ := h.fb i (by omega)
      rw [hk]; exact (q4_rv (by omega)).1
  · exact all_Fnt fun i hi => by
      obtain ⟨k, k1, k2, hk⟩ := h.fa i hi
      rw [hk]; exact (q4_rv (by omega)).1
attribute [local irreducible] QRun LexD AWp TCall TMut fop fint fcmp fconv gapD sQ rsF wayF shockF rgA rgB rgC rgD rgN l3L shL shS
theorem lawFnRegimes_c (code more : List Nat) (hc : code.length ≤ 9223372036854775807) (hm : more.length ≤ 9223372036854775807) (bc : ∀ i, i < code.length → code.getD i 0 < 256) (bm : ∀ i, i < more.length → more.getD i 0 < 256) :
    TCall Try.prog 3 [BY code, BY more] (.t (.v (.bool true))) [] := by
  cases hLg : b10Lg code more with
  | true =>
    refine tcall_of Try.func3 rfl (by kernel_rfl) (Nat.le_of_ble_eq_true rfl) rfl ?_
    simp only [argsL, argAV, argCs, argS]
    repeat (first | refine x_q ?_ | refine xd_q ?_ | refine w_q ?_ | refine w_s ?_ | refine w_t ?_ | refine w_k ?_ | refine y_q ?_ | refine y_s ?_ | refine y_t ?_ | refine y_k ?_ | refine u_n ?_ | refine u_q ?_ | refine u_g ?_ | refine u_d ?_ | refine u_b ?_ | refine u_x ?_ | refine u_r ?_ | refine u_s ?_)
    (first | refine c_q (b10Long_c code more hc hm) (h := ?_) | refine z_q (b10Long_c code more hc hm) (h := ?_))
    rw [hLg]
    repeat (first | refine x_q ?_ | refine xd_q ?_ | refine w_q ?_ | refine w_s ?_ | refine w_t ?_ | refine w_k ?_ | refine y_q ?_ | refine y_s ?_ | refine y_t ?_ | refine y_k ?_ | refine u_n ?_ | refine u_q ?_ | refine u_g ?_ | refine u_d ?_ | refine u_b ?_ | refine u_x ?_ | refine u_r ?_ | refine u_s ?_)
    refine awp_ifT rfl rfl ?_
    repeat (first | refine x_q ?_ | refine xd_q ?_ | refine w_q ?_ | refine w_s ?_ | refine w_t ?_ | refine w_k ?_ | refine y_q ?_ | refine y_s ?_ | refine y_t ?_ | refine y_k ?_ | refine u_n ?_ | refine u_q ?_ | refine u_g ?_ | refine u_d ?_ | refine u_b ?_ | refine u_x ?_ | refine u_r ?_ | refine u_s ?_)
    (refine u_0 ?_; (repeat' (first | exact RetRelL.nil | refine RetRel.nil rfl ?_ | refine RetRelL.cons ?_ ?_ | refine rr_tup ?_ | refine rr_agg ?_ | refine rr_own rfl ?_ | exact RetRel.arg | exact RetRel.argc | refine rr_t ?_)); all_goals rfl)
  | false =>
    have hLg' : code.length ≤ 1048576 ∧ more.length ≤ 1048576 := by
      unfold b10Lg at hLg
      simp only [Bool.or_eq_false_iff, decide_eq_false_iff_not] at hLg
      omega
    have hB : Byt code := ⟨by omega, bc⟩
    have hBm : Byt more := ⟨by omega, bm⟩
    obtain ⟨x0, e0, l0⟩ := wkN (l := more) (k := 0) (n := 12) (by omega)
    obtain ⟨x1, e1, l1⟩ := wkN (l := more) (k := 1) (n := 8) (by omega)
    have t0 := b10At_c more 0 12 hm bm (by omega) (by omega)
    have t1 := b10At_c more 1 8 hm bm (by omega) (by omega)
    rw [e0] at t0; rw [e1] at t1
    have hI := drawn_I hB hBm (m := x0 + 1) ⟨by omega, by omega⟩
    have hV := drawn_V hB
    have hS := drawn_ser hBm (m := x0 + 1) ⟨by omega, by omega⟩
    have tR := b10Reg_t hB
    have hsl := l3L_len more (x0 + 1)
    have tS := b10List_t hBm (x0 + 1) (by omega)
    generalize rgA code (rgN code) = a at *
    generalize rgB code (rgN code) = b at *
    generalize rgC code = c at *
    generalize rgD code (rgN code) = d at *
    generalize l3L more (x0 + 1) = s at *
    have n1 := hI.n1; have n3 := hI.n3; have lb := hI.lb; have lc := hI.lc; have ld := hI.ld
    have h9 : a.length * a.length ≤ 9 := Nat.mul_le_mul n3 n3
    have hlen : a.length ≤ 9223372036854775807 ∧ b.length ≤ 9223372036854775807 ∧ c.length ≤ 9223372036854775807 ∧ d.length ≤ 9223372036854775807 := by omega
    have hs9 : s.length ≤ 9223372036854775807 := by omega
    have fb := hI.bF
    have tA1 := specShares_c a b c d s fb hlen hs9
    have tA2 := implShares_c a b c d s fb hlen hs9
    have tW1 := specWay_c a b c d s fb hlen hs9 (fun _ _ => hI.wyOk)
    have tW2 := implWay_c a b c d s fb hlen hs9
    have tP := implRg_c a b c d [s, s] (1 + (x1 : Int)) fb hlen (by simp) (fun i hi => by
      have hc : i = 0 ∨ i = 1 := by simp at hi; omega
      rcases hc with rfl | rfl <;> exact hs9)
    have tV := implValR_c a b c d hlen
    rw [hV] at tV
    have tE := implSameR_c a b c d a b c d (by omega)
    rw [hI.same] at tE
    have tX1 := implShock_c s 1056964608 1048576000 1056964608 hs9
    have tX2 := specShock_c s 1056964608 1048576000 1056964608 hs9
    obtain ⟨hsk, hs3⟩ := hI.shock hS
    have hsk' : shockF s 1056964608 1048576000 1056964608 = (shL s 1056964608 1048576000 1056964608, shS s 1056964608 1048576000 1056964608 s.length, true) := hsk
    rw [hsk'] at tX1 tX2
    have hlw := wayF_len a b c d s
    have hrg : rgS a b c d [s, s] (1 + (x1 : Int)) = (if (rsF a b c d s).2.2 then [(rsF a b c d s).2.1, (rsF a b c d s).2.1] else [], (rsF a b c d s).2.2) := by
      have hin : inR (1 + (x1 : Int)) 1 8 = true := by unfold inR; simp; omega
      cases ho : (rsF a b c d s).2.2 with
      | true => rw [rgS_yes (by simp) (by simp) hin (by simp [ho])]; rfl
      | false => rw [rgS_not (by simp [ho])]; rfl
    rw [hrg] at tP
    have hks : ∀ i : Nat, i < 8 → ∃ x : Nat, b10F more (2 + (i : Int)) 2 = (x : Int) ∧ (x : Int) < 2 := fun i _ => wkN (by omega)
    obtain ⟨ks, hkl, hkg⟩ : ∃ ks : List Nat, ks.length = 8 ∧ ∀ i, i < 8 → ks.getD i 0 = (b10F more (2 + (i : Int)) 2).toNat := ⟨(List.range 8).map fun i : Nat => (b10F more (2 + (i : Int)) 2).toNat, by simp, fun i hi => getD_mapR _ hi⟩
    have hkc : ∀ i, i < 8 → ((ks.getD i 0 : Nat) : Int) = b10F more (2 + (i : Int)) 2 ∧ ks.getD i 0 < 2 := fun i hi => by
      obtain ⟨x, hx, hx2⟩ := hks i hi
      rw [hkg i hi, hx]; omega
    have hcw := clr_way (ks := ks) (fun t ht => (hkc t (by omega)).2) (by omega) (by omega)
    have tW3 := implWay_c a2 b2 b2 d2 (clr ks) (by unfold b2; intro x hx; simp at hx; subst hx; exact half_F2) (by unfold a2 b2 d2; simp) (by rw [clr_len]; omega)
    rw [hcw] at tW3
    have hrsl := rsF_len a b c d s
    have hsq := shL_len s 1056964608 1048576000 1056964608
    refine walkRegimes_c (a := a) (b := b) (c := c) (d := d) (s := s) (sh := (rsF a b c d s).1) (tot := (rsF a b c d s).2.1) (one := (rsF a b c d s).2.2) (two := (wayF a b c d s).2) (way := (wayF a b c d s).1) (rs := if (rsF a b c d s).2.2 then [(rsF a b c d s).2.1, (rsF a b c d s).2.1] else []) (sq := shL s 1056964608 1048576000 1056964608) (cost := shS s 1056964608 1048576000 1056964608 s.length) (ks := ks) (x1 := x1) hc hm hLg
      { tR := tR, t0 := by rw [show ((s.length : Int) - 1) = (x0 : Int) by omega]; exact t0, tS := by rw [hsl]; exact tS, tA1 := tcall_flFR tA1 rfl, tA2 := tcall_flFR tA2 rfl, tW1 := tcall_il2R tW1 rfl, tW2 := tcall_il2R tW2 rfl, t1 := t1, hx1 := by omega,
        tP := tcall_tl (ls := [s, s]) (tcall_fl2R tP rfl), tV := tV, tE := tE, hrs := fun h => by rw [h]; rfl, hsh := fun h => (hI.shares h).1, n13 := ⟨n1, n3⟩, s12 := ⟨by omega, by omega⟩, lw := hlw,
        k1 := fun h i hi => ((hI.shares h).2 i hi).1, k2 := fun h i hi => ((hI.shares h).2 i hi).2,
        tK := fun i hi => by rw [(hkc i hi).1]; exact b10At_c more (2 + (i : Int)) 2 hm bm (by omega) (by omega), kl := hkl, kb := fun i hi => (hkc i hi).2,
        tW3 := tcall_il2R tW3 rfl, tX1 := tcall_flFR tX1 rfl, tX2 := tcall_flFR tX2 rfl, lq := hsq, k3 := hs3 }
end Go.Proofs.Ytpdnjcblkjjegaa

