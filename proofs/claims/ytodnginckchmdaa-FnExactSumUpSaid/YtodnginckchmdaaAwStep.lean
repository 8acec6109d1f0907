/- The steps of a walk over states that are lists; the remaining operations. -/
import Derived.Test.YtodnginckchmdaaAwUse
import Derived.Laws.Small
import Derived.KernelRfl
set_option linter.unusedVariables false
namespace Go.Aw
open Go.RowKit (Below)

def scrubF (S : List Nat) : List (Nat × AV) → List (Nat × AV)
  | [] => []
  | (n, v) :: r => (n, scrub S v) :: scrubF S r
def scrubHL (S : List Nat) : List (Nat × Blk) → List (Nat × Blk)
  | [] => []
  | (i, B) :: r => bif S.contains i then scrubHL S r else (i, scrubB S B) :: scrubHL S r

theorem lkF_scrub (S : List Nat) (α : List (Nat × AV)) (n : Nat) : lkF (scrubF S α) n = scrub S (lkF α n) := by
  induction α with
  | nil => simp [scrubF, lkF, scrub]
  | cons p r ih =>
    obtain ⟨s, v⟩ := p
    simp only [scrubF, lkF, ih]
    cases Nat.beq n s <;> rfl
theorem lkH_scrub (S : List Nat) (H : List (Nat × Blk)) (i : Nat) : lkH (scrubHL S H) i = if S.contains i then none else (lkH H i).map (scrubB S) := by
  induction H with
  | nil => simp [scrubHL, lkH]
  | cons p r ih =>
    obtain ⟨s, B⟩ := p
    simp only [scrubHL]
    cases hs : S.contains s with
    | true =>
      simp only [cond_true, ih, lkH]
      cases hb : Nat.beq i s with
      | true => rw [Nat.eq_of_beq_eq_true hb, hs]; simp
      | false => rfl
    | false =>
      simp only [cond_false, lkH, ih]
      cases hb : Nat.beq i s with
      | true => rw [Nat.eq_of_beq_eq_true hb, hs]; simp
      | false => rfl
theorem lkH_append (a b : List (Nat × Blk)) (i : Nat) : lkH (a ++ b) i = match lkH a i with | some B => some B | none => lkH b i := by
  induction a with
  | nil => rfl
  | cons p r ih =>
    obtain ⟨s, B⟩ := p
    simp only [List.cons_append, lkH, ih]
    cases Nat.beq i s <;> rfl

theorem step_F (d : Nat) (v : AV) (α : List (Nat × AV)) : stepF [] (some d) v (lkF α) = lkF ((d, v) :: α) := by
  funext n
  simp only [stepF, updF, scrub_nil, lkF]
  cases hb : Nat.beq n d with
  | true => rw [Nat.eq_of_beq_eq_true hb]; simp
  | false =>
    have : n ≠ d := fun h => by subst h; simp at hb
    simp [this]
theorem step_F0 (v : AV) (α : List (Nat × AV)) : stepF [] none v (lkF α) = lkF α := by
  funext n; simp only [stepF, updF, scrub_nil]
theorem step_FS (S : List Nat) (d : Nat) (v : AV) (α : List (Nat × AV)) : stepF S (some d) v (lkF α) = lkF ((d, v) :: scrubF S α) := by
  funext n
  simp only [stepF, updF, lkF, lkF_scrub]
  cases hb : Nat.beq n d with
  | true => rw [Nat.eq_of_beq_eq_true hb]; simp
  | false =>
    have : n ≠ d := fun h => by subst h; simp at hb
    simp [this]
theorem step_H (ch H : List (Nat × Blk)) : hpS [] (lkH ch) (lkH H) = lkH (ch ++ H) := by
  funext i
  rw [lkH_append]
  unfold hpS
  cases lkH ch i with
  | some B => rfl
  | none => simp only [List.contains_nil]; cases lkH H i <;> simp [scrubB_nil]
theorem step_HS (S : List Nat) (ch H : List (Nat × Blk)) : hpS S (lkH ch) (lkH H) = lkH (ch ++ scrubHL S H) := by
  funext i
  rw [lkH_append, lkH_scrub]
  unfold hpS
  cases lkH ch i <;> rfl

/-- what an operation meets -/
def opF (o : Oper) (ρ : Fr) (η : Hp) : List Nat :=
  (match o.dst with | some d => [d, cid d 1, cid d 2, cid d 3] | none => []) ++ idsL (o.op.operands.toList.map (evA ρ)) ++
  (idsL (o.op.operands.toList.map (evA ρ))).flatMap fun i => match η i with | some B => B.ids | none => []

def fst' : List (Nat × Blk) → List Nat
  | [] => []
  | (i, _) :: r => i :: fst' r

section
variable {P : Program} {N : Nat} {ops : Array Oper} {dr : Bool} {K : Fr → Hp → Prop} {o : Oper} {l : List Oper} {α : List (Nat × AV)} {H ch : List (Nat × Blk)} {v : AV} {tab : List (List Nat × List Nat)}

/-- the walk of a region; 'pre': what the operations that are done met and changed, the last one first -/
def LexD (P : Program) (N : Nat) (ops : Array Oper) (dr : Bool) (K : Fr → Hp → Prop) (pre : List (List Nat × List Nat)) (l : List Oper) (ρ : Fr) (η : Hp) : Prop :=
  ∃ tab, Lex P N ops dr K tab l ρ η ∧ (!dr || tabB .any (reachT .any ops.toList []) 0 (ops.toList.zip (pre.reverse ++ tab))) = true

variable {pre : List (List Nat × List Nat)}
theorem lex_nil {ρ : Fr} {η : Hp} (hc : (!dr || tabB .any (reachT .any ops.toList []) 0 (ops.toList.zip pre.reverse)) = true) (h : K ρ η) : LexD P N ops dr K pre [] ρ η := ⟨[], ⟨rfl, h⟩, by simpa using hc⟩

/-- a step of a walk in a region whose order is fixed: nothing is noted -/
theorem px_q {d : Nat} {v' : AV} (hg : guardA ops (lkF α) o = some true) (hd : o.dst = some d) (hN : Nat.blt d N = true) (hq : QRun P o (opF o (lkF α) (lkH H)) [] (lkF α) (lkH H) v (lkH []))
    (hv : v = v') (h : LexD P N ops false K [] l (lkF ((d, v') :: α)) (lkH H)) : LexD P N ops false K [] (o :: l) (lkF α) (lkH H) := by
  subst hv
  obtain ⟨tab, h1, _⟩ := h
  have e : hpS [] (lkH []) (lkH H) = lkH H := hpS_nil _
  exact ⟨_ :: tab, ⟨opF o (lkF α) (lkH H), [], [], v, [], tab, rfl, ⟨by rw [hd]; exact hN, .inl ⟨hg, hq, rfl⟩⟩, by rw [hd, step_F, e]; exact h1⟩, rfl⟩
theorem px_st {H' : List (Nat × Blk)} (hg : guardA ops (lkF α) o = some true) (hd : o.dst = none) (hq : QRun P o (opF o (lkF α) (lkH H)) [] (lkF α) (lkH H) v (lkH ch))
    (hH : ch ++ H = H') (h : LexD P N ops false K [] l (lkF α) (lkH H')) : LexD P N ops false K [] (o :: l) (lkF α) (lkH H) := by
  subst hH
  obtain ⟨tab, h1, _⟩ := h
  exact ⟨_ :: tab, ⟨opF o (lkF α) (lkH H), fst' ch, [], v, ch, tab, rfl, ⟨by rw [hd]; rfl, .inl ⟨hg, hq, rfl⟩⟩, by rw [hd, step_F0, step_H]; exact h1⟩, rfl⟩
theorem px_s {d : Nat} {S : List Nat} {v' : AV} {α' : List (Nat × AV)} {H' : List (Nat × Blk)} (hg : guardA ops (lkF α) o = some true) (hd : o.dst = some d) (hN : Nat.blt d N = true) (hq : QRun P o (opF o (lkF α) (lkH H)) S (lkF α) (lkH H) v (lkH ch))
    (hv : v = v') (hα : scrubF S α = α') (hH : ch ++ scrubHL S H = H') (h : LexD P N ops false K [] l (lkF ((d, v') :: α')) (lkH H')) : LexD P N ops false K [] (o :: l) (lkF α) (lkH H) := by
  subst hv; subst hα; subst hH
  obtain ⟨tab, h1, _⟩ := h
  exact ⟨_ :: tab, ⟨opF o (lkF α) (lkH H), S ++ fst' ch, S, v, ch, tab, rfl, ⟨by rw [hd]; exact hN, .inl ⟨hg, hq, rfl⟩⟩, by rw [hd, step_FS, step_HS]; exact h1⟩, rfl⟩

/-- a step of a walk in a region whose order is drawn -/
theorem dx_q {d : Nat} {v' : AV} (hg : guardA ops (lkF α) o = some true) (hd : o.dst = some d) (hN : Nat.blt d N = true) (hq : QRun P o (opF o (lkF α) (lkH H)) [] (lkF α) (lkH H) v (lkH []))
    (hv : v = v') (hf : footB (opF o (lkF α) (lkH H)) [] [] (o.op.operands.toList.map (evA (lkF α))) (lkH H) v' [] = true) (h : LexD P N ops true K ((opF o (lkF α) (lkH H), []) :: pre) l (lkF ((d, v') :: α)) (lkH H)) :
    LexD P N ops true K pre (o :: l) (lkF α) (lkH H) := by
  subst hv
  obtain ⟨tab, h1, h2⟩ := h
  have e : hpS [] (lkH []) (lkH H) = lkH H := hpS_nil _
  exact ⟨_ :: tab, ⟨_, _, [], v, [], tab, rfl, ⟨by rw [hd]; exact hN, .inl ⟨hg, hq, by simpa using hf⟩⟩, by rw [hd, step_F, e]; exact h1⟩, by simpa using h2⟩
theorem dx_st {H' : List (Nat × Blk)} (hg : guardA ops (lkF α) o = some true) (hd : o.dst = none) (hq : QRun P o (opF o (lkF α) (lkH H)) [] (lkF α) (lkH H) v (lkH ch))
    (hH : ch ++ H = H') (hf : footB (opF o (lkF α) (lkH H)) (fst' ch) [] (o.op.operands.toList.map (evA (lkF α))) (lkH H) v ch = true) (h : LexD P N ops true K ((opF o (lkF α) (lkH H), fst' ch) :: pre) l (lkF α) (lkH H')) :
    LexD P N ops true K pre (o :: l) (lkF α) (lkH H) := by
  subst hH
  obtain ⟨tab, h1, h2⟩ := h
  exact ⟨_ :: tab, ⟨_, _, [], v, ch, tab, rfl, ⟨by rw [hd]; rfl, .inl ⟨hg, hq, by simpa using hf⟩⟩, by rw [hd, step_F0, step_H]; exact h1⟩, by simpa using h2⟩
theorem dx_s {d : Nat} {S : List Nat} {v' : AV} {α' : List (Nat × AV)} {H' : List (Nat × Blk)} (hg : guardA ops (lkF α) o = some true) (hd : o.dst = some d) (hN : Nat.blt d N = true) (hq : QRun P o (opF o (lkF α) (lkH H)) S (lkF α) (lkH H) v (lkH ch))
    (hv : v = v') (hα : scrubF S α = α') (hH : ch ++ scrubHL S H = H') (hf : footB (opF o (lkF α) (lkH H)) (S ++ fst' ch) S (o.op.operands.toList.map (evA (lkF α))) (lkH H) v' ch = true)
    (h : LexD P N ops true K ((opF o (lkF α) (lkH H), S ++ fst' ch) :: pre) l (lkF ((d, v') :: α')) (lkH H')) :
    LexD P N ops true K pre (o :: l) (lkF α) (lkH H) := by
  subst hv; subst hα; subst hH
  obtain ⟨tab, h1, h2⟩ := h
  exact ⟨_ :: tab, ⟨_, _, S, v, ch, tab, rfl, ⟨by rw [hd]; exact hN, .inl ⟨hg, hq, by simpa using hf⟩⟩, by rw [hd, step_FS, step_HS]; exact h1⟩, by simpa using h2⟩

/-- an operation that is passed over -/
theorem px_skip {d : Nat} (hg : guardA ops (lkF α) o = some false) (hd : o.dst = some d) (hN : Nat.blt d N = true) (h : LexD P N ops false K [] l (lkF ((d, .junk) :: α)) (lkH H)) :
    LexD P N ops false K [] (o :: l) (lkF α) (lkH H) := by
  obtain ⟨tab, h1, h2⟩ := h
  have e : hpS [] (lkH []) (lkH H) = lkH H := hpS_nil _
  exact ⟨_ :: tab, ⟨[], [], [], .junk, [], tab, rfl, ⟨by rw [hd]; exact hN, .inr ⟨hg, rfl, rfl, rfl⟩⟩, by rw [hd, step_F, e]; exact h1⟩, rfl⟩
theorem dx_skip {d : Nat} (hg : guardA ops (lkF α) o = some false) (hd : o.dst = some d) (hN : Nat.blt d N = true) (h : LexD P N ops true K (([], []) :: pre) l (lkF ((d, .junk) :: α)) (lkH H)) :
    LexD P N ops true K pre (o :: l) (lkF α) (lkH H) := by
  obtain ⟨tab, h1, h2⟩ := h
  have e : hpS [] (lkH []) (lkH H) = lkH H := hpS_nil _
  exact ⟨_ :: tab, ⟨_, _, [], .junk, [], tab, rfl, ⟨by rw [hd]; exact hN, .inr ⟨hg, rfl, rfl, rfl⟩⟩, by rw [hd, step_F, e]; exact h1⟩, by simpa using h2⟩
theorem lkF_same {t : Nat} {v : AV} {α : List (Nat × AV)} (h : lkF α t = v) : lkF ((t, v) :: α) = lkF α := by
  funext n
  simp only [lkF]
  cases hb : Nat.beq n t with
  | true => rw [Nat.eq_of_beq_eq_true hb]; exact h.symm
  | false => rfl
/-- a test that a guard asks for: the walk parts -/
theorem lex_if {j t : Nat} {want b : Bool} (hg : o.guard = some (j, want)) (hj : (ops[j]?).bind (·.dst) = some t) (ht : lkF α t = .t (.v (.bool b)))
    (h1 : b = true → LexD P N ops dr K pre (o :: l) (lkF ((t, .t (.v (.bool true))) :: α)) (lkH H)) (h0 : b = false → LexD P N ops dr K pre (o :: l) (lkF ((t, .t (.v (.bool false))) :: α)) (lkH H)) : LexD P N ops dr K pre (o :: l) (lkF α) (lkH H) := by
  cases b with
  | true => have := h1 rfl; rwa [lkF_same ht] at this
  | false => have := h0 rfl; rwa [lkF_same ht] at this

theorem nf_f {v : AV} {k : FloatKind} {c : Nat} (h : v = .t (.f k c)) : v = .t (.f k c) := h
theorem nf_b {v : AV} {b : Bool} (h : v = .t (.v (.bool b))) : v = .t (.v (.bool b)) := h
theorem nf_i {v : AV} {k : IntKind} {n : Int} (h : v = .t (.v (.int k n))) : v = .t (.v (.int k n)) := h
theorem nf_s {v : AV} {a : Option Addr} {n m : Nat} (h : v = .t (.v (.slice a n m))) : v = .t (.v (.slice a n m)) := h
theorem nf_own {v : AV} {i o n : Nat} (h : v = .own i o n) : v = .own i o n := h
theorem nf_bp {v : AV} {i o : Nat} (h : v = .bp i o) : v = .bp i o := h
theorem nf_arg {v : AV} {i : Nat} {t : T} (h : v = .arg i t) : v = .arg i t := h
theorem nf_argc {v : AV} {i j : Nat} {t : T} (h : v = .argc i j t) : v = .argc i j t := h
theorem nf_fl {v : AV} {l : List Nat} (h : v = .t (.fl l)) : v = .t (.fl l) := h
theorem nf_ofl {v : AV} {l : List Nat} (h : v = .old (.fl l)) : v = .old (.fl l) := h
theorem nf_oref {v : AV} {l : T} (h : v = .old (.ref [l])) : v = .old (.ref [l]) := h
theorem nf_tref {v : AV} {l : T} (h : v = .t (.ref [l])) : v = .t (.ref [l]) := h
theorem nf_old {v : AV} {t : T} (h : v = .old t) : v = .old t := h
theorem nf_t {v : AV} {t : T} (h : v = .t t) : v = .t t := h
theorem nf_junk {v : AV} (h : v = .junk) : v = .junk := h
theorem nf_dead {v : AV} {i : Nat} (h : v = .dead i) : v = .dead i := h

variable {Q : Exit → Fr → Hp → Prop} {ρ : Fr} {η : Hp}
theorem awp_rg {id : Nat} (h : LexD P N ops false (fun ρ η => Q .normal ρ η) [] ops.toList ρ η) : AWp P N (.region id ops false) Q ρ η := by
  obtain ⟨tab, h1, _⟩ := h
  have key : ∀ (l : List Oper) (tab : List (List Nat × List Nat)) (ρ : Fr) (η : Hp) (K K' : Fr → Hp → Prop), (∀ ρ η, K ρ η → K' ρ η) → Lex P N ops false K tab l ρ η → Lex P N ops false K' tab l ρ η := by
    intro l
    induction l with
    | nil => intro tab ρ η K K' hK h; exact ⟨h.1, hK _ _ h.2⟩
    | cons o l ih => intro tab ρ η K K' hK h; obtain ⟨F, C, S, v, ch, tab', e, hy, hr⟩ := h; exact ⟨F, C, S, v, ch, tab', e, hy, ih _ _ _ K K' hK hr⟩
  exact awp_region (tab := tab) (dr := false) fun K hK => key _ _ _ _ _ K hK h1
theorem awp_rd {id : Nat} (hm : P.follows .mixedOrders = true) (hB : Region.lexFrom .any ops ops.size 0 (Array.replicate ops.size false) = true)
    (h : LexD P N ops true (fun ρ η => Q .normal ρ η) [] ops.toList ρ η) : AWp P N (.region id ops true) Q ρ η := by
  obtain ⟨tab, h1, h2⟩ := h
  have key : ∀ (l : List Oper) (tab : List (List Nat × List Nat)) (ρ : Fr) (η : Hp) (K K' : Fr → Hp → Prop), (∀ ρ η, K ρ η → K' ρ η) → Lex P N ops true K tab l ρ η → Lex P N ops true K' tab l ρ η := by
    intro l
    induction l with
    | nil => intro tab ρ η K K' hK h; exact ⟨h.1, hK _ _ h.2⟩
    | cons o l ih => intro tab ρ η K K' hK h; obtain ⟨F, C, S, v, ch, tab', e, hy, hr⟩ := h; exact ⟨F, C, S, v, ch, tab', e, hy, ih _ _ _ K K' hK hr⟩
  exact awp_drawn hm (fun K hK => key _ _ _ _ _ K hK h1) hB (by simpa using h2)

theorem awp_sq {x y : Code} (h : AWp P N x (thenA (AWp P N y Q) Q) ρ η) : AWp P N (.seq x y) Q ρ η :=
  awp_seq fun K hK => awp_mono h fun e ρ η q => by cases e <;> first | exact q | exact hK _ _ q
/-- a test: what it came to is known from then on -/
theorem awp_if {t : Nat} {x y : Code} {b : Bool} (hc : lkF α t = .t (.v (.bool b))) (h1 : b = true → AWp P N x Q (lkF α) (lkH H)) (h2 : b = false → AWp P N y Q (lkF α) (lkH H)) : AWp P N (.cond (.tmp t) x y) Q (lkF α) (lkH H) :=
  awp_cond (b := b) hc h1 h2
end

/-! ### the end -/
inductive RetRelL (π : Nat → Option Nat) : List AV → List RV → Prop
  | nil : RetRelL π [] []
  | cons {v : AV} {r : RV} {l : List AV} {m : List RV} (h : RetRel π v r) (hs : RetRelL π l m) : RetRelL π (v :: l) (r :: m)
theorem RetRelL.get {π : Nat → Option Nat} {l : List AV} {m : List RV} (h : RetRelL π l m) : l.length = m.length ∧ ∀ (i : Nat) (v : AV) (r : RV), l[i]? = some v → m[i]? = some r → RetRel π v r := by
  induction h with
  | nil => exact ⟨rfl, fun i v r h => by simp at h⟩
  | cons h _ ih =>
    refine ⟨by simp [ih.1], fun i v r h1 h2 => ?_⟩
    cases i with
    | zero => simp at h1 h2; subst h1; subst h2; exact h
    | succ i => exact ih.2 i v r (by simpa using h1) (by simpa using h2)
theorem rr_t {π : Nat → Option Nat} {t t' : T} (h : t = t') : RetRel π (.t t) (.t t') := by subst h; exact .t
theorem rr_tup {π : Nat → Option Nat} {l : List AV} {m : List RV} (h : RetRelL π l m) : RetRel π (.tup l) (.tup m) := .tup h.get.1 h.get.2
theorem rr_agg {π : Nat → Option Nat} {l : List AV} {m : List RV} (h : RetRelL π l m) : RetRel π (.agg l) (.agg m) := .agg h.get.1 h.get.2
theorem rr_own {π : Nat → Option Nat} {id j n n' : Nat} (h : π j = some id) (hn : n = n') : RetRel π (.own id 0 n) (.own j n') := by subst hn; exact .own h
theorem injO_0 (π : Nat → Option Nat) : injO π [] := fun i j a h => by simp [lkH] at h
theorem lkH_sm {k : Nat} {B : Blk} {r : List (Nat × Blk)} {i : Nat} (h : (lkH ((k, B) :: r) i).isSome) : i = k ∨ (lkH r i).isSome := by
  simp only [lkH] at h
  cases hb : Nat.beq i k with
  | true => exact .inl (Nat.eq_of_beq_eq_true hb)
  | false => simp only [hb, cond_false] at h; exact .inr h
theorem injO_1 (π : Nat → Option Nat) (k : Nat) (B : Blk) : injO π [(k, B)] := fun i j a hi hj _ _ => by
  rcases lkH_sm hi with rfl | h
  · rcases lkH_sm hj with rfl | h
    · rfl
    · simp [lkH] at h
  · simp [lkH] at h
theorem injO_2 (π : Nat → Option Nat) (k m : Nat) (B C : Blk) (h : ∀ a, π k = some a → π m ≠ some a) : injO π [(k, B), (m, C)] := fun i j a hi hj h1 h2 => by
  rcases lkH_sm hi with rfl | hi
  · rcases lkH_sm hj with rfl | hj
    · rfl
    · rcases lkH_sm hj with rfl | hj
      · exact absurd h2 (h a h1)
      · simp [lkH] at hj
  · rcases lkH_sm hi with rfl | hi
    · rcases lkH_sm hj with rfl | hj
      · exact absurd h1 (h a h2)
      · rcases lkH_sm hj with rfl | hj
        · rfl
        · simp [lkH] at hj
    · simp [lkH] at hi
theorem ret_ok {P : Program} {ty : Ty} (hT : TyOk P ty) {fn : Func} {rv : RV} {hs : List (Nat × Blk)} {e : Exit} {ρ : Fr} {η : Hp} (he : e = .normal ∨ e = .ret) (π : Nat → Option Nat) {rs : List ResultVar} {l : List AV} (hf : fn.results.toList = rs)
    (h : ResAl ty ρ η rs l) (hr : RetRel π (joinA l) rv) (hw : wkO π η hs) (hi : injO π hs) : RetQ P fn rv hs e ρ η :=
  ⟨he, _, π, retA_of hT hf h, hr, hw, hi⟩
def pi0 : Nat → Option Nat := fun _ => none
def pi1 (a : Nat) : Nat → Option Nat := fun j => bif Nat.beq j 0 then some a else none
def pi2 (a b : Nat) : Nat → Option Nat := fun j => bif Nat.beq j 0 then some a else bif Nat.beq j 1 then some b else none
theorem injO_pi2 (a b : Nat) (h : a ≠ b) (B C : Blk) : injO (pi2 a b) [(0, B), (1, C)] := injO_2 _ _ _ _ _ fun x h1 h2 => by
  have e1 : pi2 a b 0 = some a := rfl
  have e2 : pi2 a b 1 = some b := rfl
  rw [e1] at h1; rw [e2] at h2
  cases h1; cases h2; exact h rfl

theorem tots_mk {F : List Nat} {η : Hp} {d : Bool} : ∀ ts : List T, ToTs F η (ts.map (mkT d)) ts
  | [] => .nil
  | t :: r => .cons (by
      cases t <;> cases d <;> exact .tr rfl) (tots_mk r)

theorem src_own {F : List Nat} {η : Hp} {x : AV} {id n : Nat} {e : TypeId} {c : T} (hx : x = .own id 0 n) (hη : η id = some (.sl e c)) (hF : F.contains id = true) (hn : c.len = n) : Src F η x c := .inl ⟨id, e, by rw [hn]; exact hx, hη, hF⟩
theorem src_tr {F : List Nat} {η : Hp} {x : AV} {dd : Bool} {c : T} (hx : x.tr = some (dd, c)) (hf : (!dd || c.flat) = true) : Src F η x c := .inr ⟨dd, hx, hf⟩
theorem own_eq {i n m : Nat} (h : n = m) : AV.own i 0 n = AV.own i 0 m := by rw [h]
theorem sl_eq {e : TypeId} {c c' : T} (h : c = c') : some (Blk.sl e c) = some (Blk.sl e c') := by rw [h]
theorem take_snoc {l : List Nat} {i x : Nat} (h : i < l.length) (hx : l.getD i 0 = x) : l.take i ++ [x] = l.take (i + 1) := by
  rw [List.take_succ_eq_append_getElem h, ← hx]; simp [List.getD_eq_getElem?_getD, h]

/-! ### the remaining operations -/
section
variable {P : Program} {o : Oper} {F : List Nat} {ρ : Fr} {η : Hp} {ty : Ty}

theorem q_len_fl {t : TypeId} {e : TE} {u : TypeId} {x : Operand} {l : List Nat} {dd : Bool} (hT : TyOk P ty) (ho : o.op = .call { callee := .builtin .len, args := #[x], argTypes := #[t] })
    (ht : ty.get t = some e) (hd : e.d = .sl u) (hx : (evA ρ x).tr = some (dd, .fl l)) : QRun P o F [] ρ η (.t (.v (.int .i64 l.length))) (lkH []) := q_len_tree hT ho ht hd hx rfl
theorem q_len_il {t : TypeId} {e : TE} {u : TypeId} {x : Operand} {l : List Int} {dd : Bool} (hT : TyOk P ty) (ho : o.op = .call { callee := .builtin .len, args := #[x], argTypes := #[t] })
    (ht : ty.get t = some e) (hd : e.d = .sl u) (hx : (evA ρ x).tr = some (dd, .il l)) : QRun P o F [] ρ η (.t (.v (.int .i64 l.length))) (lkH []) := q_len_tree hT ho ht hd hx rfl
theorem q_len_bl {t : TypeId} {e : TE} {u : TypeId} {x : Operand} {l : List Bool} {dd : Bool} (hT : TyOk P ty) (ho : o.op = .call { callee := .builtin .len, args := #[x], argTypes := #[t] })
    (ht : ty.get t = some e) (hd : e.d = .sl u) (hx : (evA ρ x).tr = some (dd, .bl l)) : QRun P o F [] ρ η (.t (.v (.int .i64 l.length))) (lkH []) := q_len_tree hT ho ht hd hx rfl
theorem q_len_ffl {t : TypeId} {e : TE} {u : TypeId} {x : Operand} {l : List (List Nat)} {dd : Bool} (hT : TyOk P ty) (ho : o.op = .call { callee := .builtin .len, args := #[x], argTypes := #[t] })
    (ht : ty.get t = some e) (hd : e.d = .sl u) (hx : (evA ρ x).tr = some (dd, .ffl l)) : QRun P o F [] ρ η (.t (.v (.int .i64 l.length))) (lkH []) := q_len_tree hT ho ht hd hx rfl
theorem q_pick_t {c x y : Operand} (ho : o.op = .pick c x y) (hc : evA ρ c = .t (.v (.bool true))) : QRun P o F [] ρ η (evA ρ x) (lkH []) := q_pick ho hc
theorem q_pick_f {c x y : Operand} (ho : o.op = .pick c x y) (hc : evA ρ c = .t (.v (.bool false))) : QRun P o F [] ρ η (evA ρ y) (lkH []) := q_pick ho hc
theorem TyR.int {t : TypeId} {e : TE} {k : IntKind} (h : TyR P t e) (hd : e.d = .i k) : P.underlying t = some (.int k) := by
  obtain ⟨d, hu, h1⟩ := h.desc
  rw [hd] at h1
  cases d <;> simp [descTI] at h1
  rw [hu, h1]
theorem TyR.float {t : TypeId} {e : TE} {k : FloatKind} (h : TyR P t e) (hd : e.d = .f k) : P.underlying t = some (.float k) := by
  obtain ⟨d, hu, h1⟩ := h.desc
  rw [hd] at h1
  cases d <;> simp [descTI] at h1
  rw [hu, h1]
theorem TyR.bool {t : TypeId} {e : TE} (h : TyR P t e) (hd : e.d = .b) : P.underlying t = some .bool := by
  obtain ⟨d, hu, h1⟩ := h.desc
  rw [hd] at h1
  cases d <;> simp [descTI] at h1
  exact hu
theorem TyR.some {t : TypeId} {e : TE} (h : TyR P t e) : ∃ d, P.underlying t = some d := by
  obtain ⟨d, hu, _⟩ := h.desc; exact ⟨d, hu⟩

theorem q_cv_if {s t : TypeId} {es et : TE} {x : Operand} {k : IntKind} {f : FloatKind} {n : Int} (hT : TyOk P ty) (ho : o.op = .convert s t x) (hs : ty.get s = some es) (ht : ty.get t = some et) (hd : et.d = .f f)
    (hx : evA ρ x = .t (.v (.int k n))) : QRun P o F [] ρ η (.t (.f f (fint f n))) (lkH []) := by
  refine qrun_val fun vs w0 μ η' a w h1 h2 h3 => ?_
  have hx' := h3 x (by simp [ho, Op.operands])
  rw [hx, VR, TR] at hx'
  obtain ⟨ds, hds⟩ := (hT.get hs).some
  have hr := run_convert_int_float (P := P) w s t k f n (by rw [hds]; rfl) ((hT.get ht).float hd)
  refine ⟨.float f (f.nearest n), w.drawn, by simp [execOp, ho, hx', hr, floatOfInt], ?_⟩
  rw [VR, TR]; exact ⟨_, rfl, fint_FR f n⟩
theorem q_cv_ff {s t : TypeId} {es et : TE} {x : Operand} {f g : FloatKind} {c : Nat} (hT : TyOk P ty) (ho : o.op = .convert s t x) (hs : ty.get s = some es) (hds : es.d = .f f) (ht : ty.get t = some et) (hd : et.d = .f g) (hfg : f ≠ g)
    (hx : evA ρ x = .t (.f f c)) (hok : fconvOk f g c = true) : QRun P o F [] ρ η (.t (.f g (fconv f g c))) (lkH []) := by
  refine qrun_val fun vs w0 μ η' a w h1 h2 h3 => ?_
  have hx' := h3 x (by simp [ho, Op.operands])
  rw [hx, VR, TR] at hx'
  obtain ⟨b, hb, hf⟩ := hx'
  obtain ⟨r, n, hr, hR⟩ := run_fconv (P := P) (w := w) hfg hf hok
  refine ⟨.float g r, n, ?_, by rw [VR, TR]; exact ⟨r, rfl, hR⟩⟩
  simp [execOp, ho, hb, convert, run_underlying ((hT.get hs).float hds), run_underlying ((hT.get ht).float hd), hr]
theorem q_cv_same {s t : TypeId} {es et : TE} {x : Operand} {f : FloatKind} {c : Nat} (hT : TyOk P ty) (ho : o.op = .convert s t x) (hs : ty.get s = some es) (hds : es.d = .f f) (ht : ty.get t = some et) (hd : et.d = .f f)
    (hx : evA ρ x = .t (.f f c)) : QRun P o F [] ρ η (.t (.f f c)) (lkH []) := by
  refine qrun_val fun vs w0 μ η' a w h1 h2 h3 => ?_
  have hx' := h3 x (by simp [ho, Op.operands])
  rw [hx, VR, TR] at hx'
  obtain ⟨b, hb, hf⟩ := hx'
  refine ⟨.float f b, w.drawn, ?_, by rw [VR, TR]; exact ⟨b, rfl, hf⟩⟩
  simp [execOp, ho, hb, convert, run_underlying ((hT.get hs).float hds), run_underlying ((hT.get ht).float hd), Conv.floatToFloat]
theorem q_cv_ii {s t : TypeId} {es et : TE} {x : Operand} {k j : IntKind} {n : Int} (hT : TyOk P ty) (ho : o.op = .convert s t x) (hs : ty.get s = some es) (ht : ty.get t = some et) (hd : et.d = .i j)
    (hx : evA ρ x = .t (.v (.int k n))) : QRun P o F [] ρ η (.t (.v (.int j (j.wrap n)))) (lkH []) := by
  refine qrun_v fun vs w0 μ η' a w h1 h2 h3 => ?_
  have hx' := h3 x (by simp [ho, Op.operands])
  rw [hx, VR, TR] at hx'
  obtain ⟨ds, hds⟩ := (hT.get hs).some
  cases ds <;> simp [execOp, ho, hx', convert, run_underlying hds, run_underlying ((hT.get ht).int hd), Conv.intToInt]

/-- '==', '!=' on bools -/
theorem q_beq {t u : TypeId} {e : TE} {x y : Operand} {b c : Bool} (hT : TyOk P ty) (ho : o.op = .binOp .eql t x y u) (ht : ty.get t = some e) (hd : e.d = .b)
    (hx : evA ρ x = .t (.v (.bool b))) (hy : evA ρ y = .t (.v (.bool c))) : QRun P o F [] ρ η (.t (.v (.bool (b == c)))) (lkH []) := by
  refine qrun_v fun vs w0 μ η' a w h1 h2 h3 => ?_
  have hx' := h3 x (by simp [ho, Op.operands])
  have hy' := h3 y (by simp [ho, Op.operands])
  rw [hx, VR, TR] at hx'; rw [hy, VR, TR] at hy'
  have hr := run_equal_bool (P := P) w t b c ((hT.get ht).bool hd)
  have e : binOp .eql t (.bool b) (.bool c) = (do pure (.bool (← Op.equal t (.bool b) (.bool c)))) := by unfold binOp; rfl
  simp [execOp, ho, hx', hy', eqGuard, e, hr]
theorem q_bne {t u : TypeId} {e : TE} {x y : Operand} {b c : Bool} (hT : TyOk P ty) (ho : o.op = .binOp .neq t x y u) (ht : ty.get t = some e) (hd : e.d = .b)
    (hx : evA ρ x = .t (.v (.bool b))) (hy : evA ρ y = .t (.v (.bool c))) : QRun P o F [] ρ η (.t (.v (.bool (!(b == c))))) (lkH []) := by
  refine qrun_v fun vs w0 μ η' a w h1 h2 h3 => ?_
  have hx' := h3 x (by simp [ho, Op.operands])
  have hy' := h3 y (by simp [ho, Op.operands])
  rw [hx, VR, TR] at hx'; rw [hy, VR, TR] at hy'
  have hr := run_equal_bool (P := P) w t b c ((hT.get ht).bool hd)
  have e : binOp .neq t (.bool b) (.bool c) = (do pure (.bool (!(← Op.equal t (.bool b) (.bool c))))) := by unfold binOp; rfl
  simp [execOp, ho, hx', hy', eqGuard, e, hr]

/-- a function without a body of the text, known to the model -/
structure ExtOk (P : Program) (f : FuncId) (g : Array Value → Sem Value) : Prop where
  run : ∀ (args : Array Value) (w : World), (callFunc f args).run P w = ((g args).run P w).andThen fun v w' => .ok (.value v) w'

theorem q_bits32 {f : FuncId} {x : Operand} {tys : Array TypeId} {c : Nat} (he : ExtOk P f Extern.MathFloatBits.float32bits) (ho : o.op = .call { callee := .value (.func f), args := #[x], argTypes := tys })
    (hx : evA ρ x = .t (.f .f32 c)) (hn : isNan .f32 c = false) : QRun P o F [] ρ η (.t (.v (.int .u32 c))) (lkH []) := by
  refine qrun_v fun vs w0 μ η' a w h1 h2 h3 => ?_
  have hx' := h3 x (by simp [ho, Op.operands, Call.operands])
  rw [hx, VR, TR] at hx'
  obtain ⟨b, hb, hf⟩ := hx'
  have := hf.eq hn
  subst this
  have e : Extern.MathFloatBits.float32bits #[.float .f32 b] = pure (.int .u32 b) := rfl
  have ef : a.eval (.func f) = .func (.func f) #[] #[] := rfl
  simp [execOp, ho, hb, resolve, Deferred.ofValue, ef, invoke, he.run, e]
theorem q_bits64 {f : FuncId} {x : Operand} {tys : Array TypeId} {c : Nat} (he : ExtOk P f Extern.MathFloatBits.float64bits) (ho : o.op = .call { callee := .value (.func f), args := #[x], argTypes := tys })
    (hx : evA ρ x = .t (.f .f64 c)) (hn : isNan .f64 c = false) : QRun P o F [] ρ η (.t (.v (.int .u64 c))) (lkH []) := by
  refine qrun_v fun vs w0 μ η' a w h1 h2 h3 => ?_
  have hx' := h3 x (by simp [ho, Op.operands, Call.operands])
  rw [hx, VR, TR] at hx'
  obtain ⟨b, hb, hf⟩ := hx'
  have := hf.eq hn
  subst this
  have e : Extern.MathFloatBits.float64bits #[.float .f64 b] = pure (.int .u64 b) := rfl
  have ef : a.eval (.func f) = .func (.func f) #[] #[] := rfl
  simp [execOp, ho, hb, resolve, Deferred.ofValue, ef, invoke, he.run, e]

theorem q_fn {f : FuncId} {caps : Array Operand} (ho : o.op = .makeFunc (.func f) #[] caps) : QRun P o F [] ρ η (.fn f (caps.toList.map (evA ρ))) (lkH []) := by
  refine qrun_val fun vs w0 μ η' a w h1 h2 h3 => ?_
  refine ⟨.func (.func f) #[] (caps.map a.eval), w.drawn, by simp [execOp, ho, Instr.makeFunc], ?_⟩
  rw [VR]
  refine ⟨_, rfl, (VRl_iff ..).2 ⟨by simp, fun i v hv => ?_⟩⟩
  simp only [List.getElem?_map, Option.map_eq_some_iff] at hv
  obtain ⟨x, hx, rfl⟩ := hv
  exact ⟨a.eval x, by simpa using ⟨x, by simpa using hx, rfl⟩, h3 x (by simp [ho, Op.operands]; exact by simpa using List.mem_of_getElem? hx)⟩

theorem q_fneg {t : TypeId} {x : Operand} {k : FloatKind} {c : Nat} (ho : o.op = .unOp .neg t x) (hx : evA ρ x = .t (.f k c)) : QRun P o F [] ρ η (.t (.f k (fneg k c))) (lkH []) := by
  refine qrun_val fun vs w0 μ η' a w h1 h2 h3 => ?_
  have hx' := h3 x (by simp [ho, Op.operands])
  rw [hx, VR, TR] at hx'
  obtain ⟨b, hb, hf⟩ := hx'
  refine ⟨.float k (Op.negFloat k b), w.drawn, by simp [execOp, ho, hb, Op.unary], ?_⟩
  rw [VR, TR]
  refine ⟨_, rfl, ?_⟩
  have hlt : Op.negFloat k b < 2 ^ k.format.width := by
    unfold Op.negFloat
    refine Nat.xor_lt_two_pow hf.2 ?_
    cases k <;> decide
  unfold fneg
  cases hc : isNan k c with
  | true =>
    simp only [if_true]
    refine ⟨canon_nan ?_, hlt⟩
    have hb' := hf.nan.trans hc
    rw [nanB_eq] at hb' ⊢
    cases k
    · simp only [nanB, decide_eq_true_eq] at hb' ⊢
      have : Op.negFloat .f32 b % 2147483648 = b % 2147483648 := by
        have e : (2147483648 : Nat) = 2 ^ 31 := by decide
        show (b ^^^ 2 ^ 31) % 2147483648 = _
        rw [e, Nat.xor_mod_two_pow]; simp
      rw [this]; exact hb'
    · simp only [nanB, decide_eq_true_eq] at hb' ⊢
      have : Op.negFloat .f64 b % 9223372036854775808 = b % 9223372036854775808 := by
        have e : (9223372036854775808 : Nat) = 2 ^ 63 := by decide
        show (b ^^^ 2 ^ 63) % 9223372036854775808 = _
        rw [e, Nat.xor_mod_two_pow]; simp
      rw [this]; exact hb'
  | false =>
    have := hf.eq hc
    subst this
    simp only [Bool.false_eq_true, if_false]
    exact FR_of hlt
end
end Go.Aw
