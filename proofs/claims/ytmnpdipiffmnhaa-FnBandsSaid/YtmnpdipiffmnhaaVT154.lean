import Derived.Test.YtmnpdipiffmnhaaVT1n
import Derived.Test.YtmnpdipiffmnhaaVT28
import Derived.Test.YtmnpdipiffmnhaaVT58
import Derived.Test.YtmnpdipiffmnhaaVAwG
import Derived.Test.YtmnpdipiffmnhaaVAwN
import Derived.Test.YtmnpdipiffmnhaaVT177
import Derived.Test.YtmnpdipiffmnhaaVT162
import Derived.Test.YtmnpdipiffmnhaaVT9
set_option linter.unusedVariables false
set_option linter.unusedSimpArgs false
set_option maxRecDepth 20000
set_option maxHeartbeats 8000000
namespace Go.Proofs.Ytmnpdipiffmnhaa
open Go.Aw

/-! ### rows that are data, and one that is not yet -/
def NL (R : List (List Nat)) : List AV := R.map fun r => .t (.fl r)
theorem NL_len (R : List (List Nat)) : (NL R).length = R.length := by simp [NL]
theorem NL_good (R : List (List Nat)) : GoodN [] (NL R) := fun v hv j hj => by
  obtain ⟨t, _, rfl⟩ := List.mem_map.1 hv
  simp [AV.ids] at hj
/-- all rows are data: the slice is one of slices of floats -/
theorem NL_ffl {η η' : Hp} {R : List (List Nat)} {i : Nat} {e : TypeId} (h1 : η i = some (.nest e (NL R) [] noRem)) : BTo (fun i => i) η η' i (.sl e (.ffl R)) := by
  refine .inr ⟨_, _, h1, NL_good R, rfl, by rw [NL_len]; rfl, fun k v hv => ?_⟩
  unfold NL at hv
  rw [List.getElem?_map, Option.map_eq_some_iff] at hv
  obtain ⟨r, hr, rfl⟩ := hv
  refine ⟨.fl r, ?_, .inl rfl⟩
  show (R.map T.fl)[k]? = _
  rw [List.getElem?_map, hr]; rfl

/-! ### columns of a series and what was ahead of it -/
attribute [local irreducible] QRun LexD AWp TCall TMut fop fint fcmp fconv NL 
end Go.Proofs.Ytmnpdipiffmnhaa

set_option linter.unusedVariables false
set_option linter.unusedSimpArgs false
set_option maxRecDepth 20000
set_option maxHeartbeats 8000000
namespace Go.Proofs.Ytmnpdipiffmnhaa
open Go.Aw
attribute [local irreducible] QRun LexD AWp TCall TMut fop fint fcmp fconv sdN sdI miA bnS bnX bnO  bcL bOk bqL quantG NL gsF erF nxF

/-! ### bands of ways ahead: the reference's, its end -/
theorem iE12 {k : IntKind} {a b : Int} (h : a = b) : AV.t (.v (.int k a)) = AV.t (.v (.int k b)) := by rw [h]
theorem own_l2 {id a b : Nat} (h : a = b) : AV.own id 0 a = AV.own id 0 b := by rw [h]
theorem bcL_0 (s : ST) (h : SH) (m : List Nat) (sd C k : Nat) : bcL s h m sd C 0 k = [] := by unfold bcL; rfl
end Go.Proofs.Ytmnpdipiffmnhaa

set_option linter.unusedVariables false
set_option linter.unusedSimpArgs false
set_option maxRecDepth 20000
set_option maxHeartbeats 8000000
namespace Go.Proofs.Ytmnpdipiffmnhaa
open Go.Aw
/-! ### bands of ways ahead: the reference's -/
theorem bnS_0 (s : ST) (h : SH) (m : List Nat) (sd : Nat) : bnS s h m sd 0 = s := rfl
theorem sdN_int (x : Nat) : (1664525 * (x : Int) + 1013904223) % 4294967296 = ((sdN x : Nat) : Int) := by unfold sdN; omega
theorem miA_int (m : List Nat) (x : Nat) : (x : Int) * (m.length : Int) / 4294967296 = ((miA m x : Nat) : Int) := by
  have e : ((x * m.length : Nat) : Int) = (x : Int) * (m.length : Int) := Int.natCast_mul _ _
  rw [← e]; unfold miA; omega
attribute [local irreducible] QRun LexD AWp TCall TMut fop fint fcmp fconv sdN sdI miA bnS bnX bnO  bcL bOk bqL quantG NL gsF erF nxF 
end Go.Proofs.Ytmnpdipiffmnhaa

set_option linter.unusedVariables false
set_option linter.unusedSimpArgs false
set_option maxRecDepth 20000
set_option maxHeartbeats 8000000
namespace Go.Proofs.Ytmnpdipiffmnhaa
open Go.Aw

/-! ### rows by names above all others; some of them by names of their own -/
/-- the name 'a' stands for what 'b' was -/
def one (a b : Nat) : Nat → Nat := fun x => bif Nat.beq x a then b else x
theorem one_eq (a b : Nat) : one a b a = b := by unfold one; rw [Nat.beq_refl]; rfl
theorem beq_no {x a : Nat} (h : x ≠ a) : Nat.beq x a = false := by
  cases hb : Nat.beq x a with
  | false => rfl
  | true => exact absurd (Nat.eq_of_beq_eq_true hb) h
theorem one_ne {a b x : Nat} (h : x ≠ a) : one a b x = x := by unfold one; rw [beq_no h]; rfl
theorem inj_one {a b : Nat} {η' : Hp} (hb : (η' b).isSome = false) (i j : Nat) (hi : (η' i).isSome) (hj : (η' j).isSome) (h : one a b i = one a b j) : i = j := by
  by_cases h1 : i = a
  · by_cases h2 : j = a
    · rw [h1, h2]
    · subst h1
      rw [one_eq, one_ne h2] at h
      subst h; rw [hb] at hj; cases hj
  · by_cases h2 : j = a
    · subst h2
      rw [one_eq, one_ne h1] at h
      subst h; rw [hb] at hi; cases hi
    · rwa [one_ne h1, one_ne h2] at h
/-- the row t of the block 26, for those t that 'p' tells -/
def famR (ef n : Nat) (R : Nat → List Nat) (p : Nat → Bool) : Hp := fun i => if i % bigN = 26 ∧ 1 ≤ i / bigN ∧ i / bigN ≤ n ∧ p (i / bigN - 1) = true then some (.sl ef (.fl (R (i / bigN - 1)))) else none
theorem hid_mod (t : Nat) : hid 26 t % bigN = 26 := by unfold hid bigN; omega
theorem hid_div (t : Nat) : hid 26 t / bigN = t + 1 := by unfold hid bigN; omega
theorem hid_eq {i : Nat} (h : i % bigN = 26) (h1 : 1 ≤ i / bigN) : i = hid 26 (i / bigN - 1) := by unfold hid bigN at *; omega
theorem famR_at {ef n t : Nat} {R : Nat → List Nat} {p : Nat → Bool} (ht : t < n) (hp : p t = true) : famR ef n R p (hid 26 t) = some (.sl ef (.fl (R t))) := by
  unfold famR
  rw [hid_mod, hid_div, if_pos ⟨rfl, by omega, by omega, by simpa using hp⟩]; rfl
theorem famR_no {ef n t : Nat} {R : Nat → List Nat} {p : Nat → Bool} (hp : p t = false) : famR ef n R p (hid 26 t) = none := by
  unfold famR
  rw [hid_mod, hid_div, if_neg]
  rintro ⟨_, _, _, h⟩
  rw [Nat.add_sub_cancel, hp] at h; cases h
theorem famR_of {ef n i : Nat} {R : Nat → List Nat} {p : Nat → Bool} {B : Blk} (h : famR ef n R p i = some B) : ∃ t, t < n ∧ p t = true ∧ i = hid 26 t ∧ B = .sl ef (.fl (R t)) := by
  unfold famR at h
  split at h
  · rename_i hk
    cases h
    exact ⟨i / bigN - 1, by omega, hk.2.2.2, hid_eq hk.1 hk.2.1, rfl⟩
  · cases h
theorem famR_ok (ef n : Nat) (R : Nat → List Nat) (p : Nat → Bool) : FamOk (famR ef n R p) := fun i B h => by
  obtain ⟨t, _, _, _, rfl⟩ := famR_of h
  exact ⟨_, _, rfl⟩
theorem fam_bto {ef n : Nat} {R : Nat → List Nat} {p : Nat → Bool} {π : Nat → Nat} {η η' : Hp} (h : ∀ t, t < n → p t = true → η (π (hid 26 t)) = some (.sl ef (.fl (R t)))) (i : Nat) (B : Blk) (hi : bigN ≤ i) (hB : famR ef n R p i = some B) : BTo π η η' i B := by
  obtain ⟨t, ht, hp, rfl, rfl⟩ := famR_of hB
  exact .inl (h t ht hp)
/-- the cells: rows by their names -/
def HX (n len : Nat) (f : Nat → Nat) : List AV := (List.range n).map fun t => .own (f t) 0 len
theorem HX_len (n len : Nat) (f : Nat → Nat) : (HX n len f).length = n := by simp [HX]
theorem HX_get {n len t : Nat} {f : Nat → Nat} (h : t < n) : (HX n len f)[t]? = some (.own (f t) 0 len) := by simp [HX, h]
theorem HX_good {n len : Nat} {f : Nat → Nat} {vis : List Nat} (h : ∀ t, t < n → bigN ≤ f t ∨ f t ∈ vis) : GoodN vis (HX n len f) := fun v hv j hj => by
  obtain ⟨t, ht, rfl⟩ := List.mem_map.1 hv
  simp only [AV.ids, List.mem_singleton] at hj
  subst hj
  exact h t (List.mem_range.1 ht)
/-- all rows become data -/
theorem HX_data {n len e i ef : Nat} {R : Nat → List Nat} {η η' : Hp} {vis : List Nat} (h1 : η i = some (.nest e (HX n len (hid 26)) vis noRem)) (hR : ∀ t, t < n → η (hid 26 t) = some (.sl ef (.fl (R t)))) (hl : ∀ t, t < n → (R t).length = len) (hn : ∀ t, t < n → (η' (hid 26 t)).isSome = false) :
    BTo (fun i => i) η η' i (.nest e (NL ((List.range n).map R)) [] noRem) := by
  refine .inl ⟨_, _, h1, HX_good fun t _ => .inl (hid_big 26 t), by rw [NL_len, HX_len]; simp, fun k v hv => ?_⟩
  have hk : k < n := by have := (List.getElem?_eq_some_iff.1 hv).1; rw [NL_len] at this; simpa using this
  refine ⟨_, HX_get hk, .inr ⟨.fl (R k), hid 26 k, ef, ?_, ?_, hR k hk, fun j hj he => ?_⟩⟩
  · unfold NL at hv
    simpa [hk] using hv.symm
  · show _ = AV.own (hid 26 k) 0 (R k).length
    rw [hl k hk]
  · have : j = hid 26 k := he
    subst this; rw [hn k hk] at hj; cases hj
/-- row k by the name a -/
def up (f : Nat → Nat) (k a : Nat) : Nat → Nat := fun t => if t = k then a else f t
theorem up_eq (f : Nat → Nat) (k a : Nat) : up f k a k = a := by simp [up]
theorem up_ne {f : Nat → Nat} {k a t : Nat} (h : t ≠ k) : up f k a t = f t := by simp [up, h]
theorem hid_ne {t a : Nat} (h : a < bigN) : hid 26 t ≠ a := fun he => by have := hid_big 26 t; omega
def but (p : Nat → Bool) (k : Nat) : Nat → Bool := fun t => if t = k then false else p t
theorem but_eq (p : Nat → Bool) (k : Nat) : but p k k = false := by simp [but]
theorem but_ne {p : Nat → Bool} {k t : Nat} (h : t ≠ k) : but p k t = p t := by simp [but, h]
/-! states -/
theorem ov_at {η : Hp} {ef n t : Nat} {R : Nat → List Nat} {p : Nat → Bool} (ht : t < n) (hp : p t = true) : ovH η (famR ef n R p) (hid 26 t) = some (.sl ef (.fl (R t))) := by
  rw [ovH_ge (hid_big _ _)]; exact famR_at ht hp
theorem ov_no {η : Hp} {ef n t : Nat} {R : Nat → List Nat} {p : Nat → Bool} (hp : p t = false) : (ovH η (famR ef n R p) (hid 26 t)).isSome = false := by
  rw [ovH_ge (hid_big _ _), famR_no hp]; rfl
section
variable {P : Program} {N : Nat} {Q : Exit → Fr → Hp → Prop} {ρ : Fr} {η : Hp}
theorem famN_of {X : Type} {Inv : X → Prop} {α : X → List (Nat × AV)} {H : X → List (Nat × Blk)} {fm : X → Hp} (x : X) (π : Nat → Nat) (hI : Inv x) (hF : wkF π ρ (α x)) (hB : wkB π η (ovH (lkH (H x)) (fm x)) (H x))
    (hf : ∀ i B, bigN ≤ i → fm x i = some B → BTo π η (ovH (lkH (H x)) (fm x)) i B) (hi : ∀ i j, (ovH (lkH (H x)) (fm x) i).isSome → (ovH (lkH (H x)) (fm x) j).isSome → π i = π j → i = j) : FamN Inv α (fun x => ovH (lkH (H x)) (fm x)) x ρ η :=
  ⟨hI, π, hF, wkB_ov hB hf, hi⟩
theorem awp_re {c : Code} (π : Nat → Nat) (α : List (Nat × AV)) (l : List (Nat × Blk)) (fm : Hp) (hF : wkF π ρ α) (hB : wkB π η (ovH (lkH l) fm) l) (hf : ∀ i B, bigN ≤ i → fm i = some B → BTo π η (ovH (lkH l) fm) i B)
    (hi : ∀ i j, (ovH (lkH l) fm i).isSome → (ovH (lkH l) fm j).isSome → π i = π j → i = j) (h : AWp P N c Q (lkF α) (ovH (lkH l) fm)) : AWp P N c Q ρ η :=
  awp_weakN π α _ hF (wkB_ov hB hf) hi h
end
end Go.Proofs.Ytmnpdipiffmnhaa

set_option linter.unusedVariables false
set_option linter.unusedSimpArgs false
set_option maxRecDepth 20000
set_option maxHeartbeats 8000000
namespace Go.Proofs.Ytmnpdipiffmnhaa
open Go.Aw

/-! ### the program's elimination: names of rows -/
theorem up_pi {f : Nat → Nat} {i a b : Nat} (hb : b = f i) (hne : ∀ t, f t ≠ a) (t : Nat) : f t = one a b (up f i a t) := by
  by_cases h : t = i
  · subst h; rw [up_eq, one_eq, hb]
  · rw [up_ne h, one_ne (hne t)]
theorem up_ip {g : Nat → Nat} {i a b : Nat} (hb : b = g i) (hinj : ∀ t, g t = g i → t = i) (t : Nat) : up g i a t = one b a (g t) := by
  subst hb
  by_cases h : t = i
  · subst h; rw [up_eq, one_eq]
  · rw [up_ne h, one_ne fun he => h (hinj t he)]
theorem hid_nei (a : Nat) (h : Nat.blt a bigN = true) (t : Nat) : hid 26 t ≠ a := hid_ne (Nat.le_of_ble_eq_true h)
theorem fam_fo {η0 : Hp} {ef n a b : Nat} {R : Nat → List Nat} {p p' : Nat → Bool} (ha : Nat.blt a bigN = true) (hp : ∀ t, p' t = true → p t = true) (t : Nat) (ht : t < n) (h : p' t = true) : ovH η0 (famR ef n R p) (one a b (hid 26 t)) = some (.sl ef (.fl (R t))) := by
  rw [one_ne (hid_nei a ha t)]; exact ov_at ht (hp t h)
theorem but_le {p : Nat → Bool} {k t : Nat} (h : but p k t = true) : p t = true := by
  by_cases he : t = k
  · subst he; rw [but_eq] at h; cases h
  · rwa [but_ne he] at h
theorem ov_nof {η : Hp} (t : Nat) : (ovH η noFam (hid 26 t)).isSome = false := by rw [ovH_ge (hid_big _ _)]; rfl
theorem ov_sm {l : List (Nat × Blk)} {fm : Hp} {b : Nat} (hb : Nat.blt b bigN = true) (h : lkH l b = none) : (ovH (lkH l) fm b).isSome = false := by
  unfold ovH; rw [hb, cond_true, h]; rfl
theorem sm_un {η : Hp} {i a s : Nat} {B : Blk} (hs : Nat.blt s bigN = true) (h : η s = some B) : η (one (hid 26 i) a s) = some B := by
  rw [one_ne (Ne.symm (hid_nei s hs i))]; exact h
end Go.Proofs.Ytmnpdipiffmnhaa

