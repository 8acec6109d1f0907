import Derived.Test.YtmnpdipiffmnhaaYT109
import Derived.Test.YtmnpdipiffmnhaaYT28
import Derived.Test.YtmnpdipiffmnhaaYT15
import Derived.Test.YtmnpdipiffmnhaaYT22
import Derived.Test.YtmnpdipiffmnhaaYT14
import Derived.Test.YtmnpdipiffmnhaaZAwC
import Derived.Test.YtmnpdipiffmnhaaYT58
import Derived.Test.YtmnpdipiffmnhaaYT2
import Derived.Test.YtmnpdipiffmnhaaZAwE
set_option linter.unusedVariables false
set_option linter.unusedSimpArgs false
set_option maxRecDepth 100000
set_option maxHeartbeats 8000000
namespace Go.Proofs.Ytmnpdipiffmnhaa
open Go.Aw
open Go.RowKit (Below)

/-! ### what a call has made, as data from then on -/
theorem own_fl {args : List Value} {w w' : World} {μ : Nat → Option Nat} {ok : Nat → Prop} {e : TypeId} {l : List Nat} {n : Nat} {y : Value} (hc : HC ⟨args, w.heap.size, noLoan⟩ w μ (lkH [(0, .sl e (.fl l))]) w') (hr : RRel args w' μ ok (.own 0 n) y) (hn : n = l.length) :
    TR w' (okF ⟨args, w.heap.size, noLoan⟩ (okOf (fun _ => none) (lkH []))) (.fl l) y := by
  rw [TR]
  refine gf_fl ?_
  rw [RRel.eq_def] at hr
  simp only [] at hr
  rw [TR]
  obtain ⟨hsl, hB⟩ := hc.blk 0 _ rfl
  rcases hr with ⟨h1, h2, rfl⟩ | ⟨b, cap, e1, m, hb, rfl, hs, hcap, hle⟩
  · exact ⟨none, 0, 0, rfl, by omega, Nat.le_refl _, .inl rfl⟩
  · rcases hB with ⟨h0, _⟩ | ⟨b', cs, hb', hbase, hw, hlen, hcs⟩
    · rw [h0] at hb; cases hb
    · rw [hb] at hb'; cases hb'
      rw [size_shape hw] at hs; cases hs
      refine ⟨_, _, _, rfl, hn, hle, .inr ⟨b, cs, e, rfl, (Array.getElem?_eq_some_iff.1 hw).1, ⟨fun i hi => by simp [lkH] at hi, hbase.elim .inl False.elim⟩, hw, hcap, fun i hi => ?_⟩⟩
      have hi' : i < l.length := by omega
      obtain ⟨x, hx, hr⟩ := ((TRl_iff ..).1 hcs).2 i (.f .f32 l[i]) (by simp [T.elems, hi'])
      rw [List.getElem?_take] at hx
      split at hx
      · rw [TR] at hr
        obtain ⟨z, rfl, hf⟩ := hr
        exact ⟨z, by simpa using hx, by simpa [List.getD_eq_getElem?_getD, hi'] using hf⟩
      · cases hx
theorem hc_none {args : List Value} {w w' : World} {μ : Nat → Option Nat} {η : Hp} (hc : HC ⟨args, w.heap.size, noLoan⟩ w μ η w') : HC ⟨args, w.heap.size, noLoan⟩ w (fun _ => none) (lkH []) w' :=
  ⟨hc.base, hc.below, fun i B hB => by simp [lkH] at hB, fun i j b hi => by simp [lkH] at hi⟩
theorem dat_v {args : List Value} {w : World} {μ : Nat → Option Nat} {ok ok' : Nat → Prop} {v y : Value} (h : RRel args w μ ok (.t (.v v)) y) : TR w ok' (.v v) y := by
  rw [RRel, TR] at h; rw [TR]; exact h
theorem tcall_fl2 {P : Program} {f : FuncId} {ts : List T} {e : TypeId} {l : List Nat} {n : Nat} {v : Value} (h : TCall P f ts (.tup [.own 0 n, .t (.v v)]) [(0, .sl e (.fl l))]) (hn : n = l.length) : TCall P f ts (.tup [.t (.fl l), .t (.v v)]) [] := by
  refine ⟨h.1, fun w args ha => (h.2 w args ha).mono ?_⟩
  rintro e' w' ⟨y, μ, rfl, hc, hr⟩
  refine ⟨y, fun _ => none, rfl, hc_none hc, ?_⟩
  rw [RRel] at hr
  obtain ⟨xs, rfl, hr⟩ := hr
  simp only [RRell] at hr
  obtain ⟨x1, r1, e1, h1, x2, r2, e2, h2, e3⟩ := hr
  rw [RRel]
  refine ⟨xs, rfl, ?_⟩
  rw [e1, e2, e3]
  simp only [RRell, RRel]
  exact ⟨_, _, rfl, own_fl hc h1 hn, _, _, rfl, dat_v h2, rfl⟩

/-! ### states and shares that are drawn -/
attribute [local irreducible] QRun LexD AWp TCall TMut fop fint fcmp fconv hw dvD
end Go.Proofs.Ytmnpdipiffmnhaa
