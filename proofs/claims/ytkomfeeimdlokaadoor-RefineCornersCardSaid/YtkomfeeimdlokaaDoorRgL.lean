/- A range over a function whose rounds are counted and whose value lies in memory. -/
import Derived.RangeFuncNested
import Derived.RangeFuncCalls
import Derived.RangeFuncLeaves
import Derived.Test.YtkomfeeimdlokaaDoorOps2
set_option linter.unusedVariables false
set_option linter.unusedSimpArgs false
namespace Go.Proofs.Sat
open Go Go.RowKit
/-- Worlds that differ in two blocks, and in new ones. -/
structure Off (a b : Nat) (W W' : World) : Prop where
  os : W'.os = W.os
  tape : W'.tape = W.tape
  output : W'.output = W.output
  size : W.heap.size ≤ W'.heap.size
  block : ∀ k, k < W.heap.size → k ≠ a → k ≠ b → W'.heap[k]? = W.heap[k]?
theorem Off.of_below {a b : Nat} {W W' : World} (h : Below W.heap.size W W') : Off a b W W' := ⟨h.os, h.tape, h.output, h.size, fun k hk _ _ => h.block k hk⟩
theorem Off.put {a b k : Nat} (W : World) (o : Obj) (hk : k = a ∨ k = b) : Off a b W (W.putObj k o) :=
  ⟨rfl, rfl, rfl, by simp, fun j _ ha hb => World.putObj_heap_other (by rcases hk with rfl | rfl <;> assumption)⟩
theorem Off.below {a b B : Nat} {w W W' : World} (h : Off a b W W') (hb : Below B w W) (h0 : B ≤ w.heap.size) (h1 : B ≤ a) (h2 : B ≤ b) : Below B w W' :=
  ⟨h.os.trans hb.os, h.tape.trans hb.tape, h.output.trans hb.output, Nat.le_trans hb.size h.size, fun k hk => (h.block k (Nat.lt_of_lt_of_le hk (Nat.le_trans h0 hb.size)) (by omega) (by omega)).trans (hb.block k hk)⟩
/-- How a round's body is left. -/
def idxPost (W : World) (I Ix : Nat → World → Prop) (i : Nat) : Exit → Act → World → Prop
  | .normal, _, W' => KeepsOthers W W' ∧ I (i + 1) W'
  | .ret, _, W' => KeepsOthers W W' ∧ Ix i W'
  | _, _, _ => False
/-- The contract of an iterator that yields N values. -/
def IdxIter (P : Program) (m : Nat) (gf : Nat) (lb : Array Value) (w : World) (N : Nat) (I : Nat → World → Prop) (Fx : Nat → Value → World → Prop) : Prop :=
  ∀ (l : Nat) (J Jx : Nat → World → Prop), (∀ i W W', J i W → Below W.heap.size W W' → J i W') → (∀ i W, J i W → I i W ∧ w.heap.size + 1 < W.heap.size) →
    (∀ i x W, i < N → J i W → Fx i x W → YieldAt Fence.wide (m - 1) P l #[x] W fun e W' => (e = .returned (.bool true) ∧ J (i + 1) W') ∨ (e = .returned (.bool false) ∧ Jx i W')) →
    ∀ W, J 0 W → CallsIn Fence.wide m P gf (#[.func (.yield l) #[] #[]] ++ lb) W fun e W' => (∃ v, e = .returned v) ∧ (J N W' ∨ ∃ i, i < N ∧ Jx i W')
theorem rangeFunc_idx {P : Program} {n : Nat} {g : Operand} {ps : Array Tmp} {assign body : Code} {Q : Exit → Act → World → Prop} {a : Act} {w : World} {gf : Nat} {lb : Array Value}
    (hg : a.eval g = .func (.func gf) #[] lb) (eg : ∀ args w, (callFunc gf args).run P w = .ok (.enter gf args) w) (hps : ps.size = 1)
    (N : Nat) (I Ix : Nat → World → Prop) (Fx : Nat → Value → World → Prop) (a1 : Value → Act)
    (hI : ∀ i W W', I i W → Off w.heap.size (w.heap.size + 1) W W' → I i W') (hIx : ∀ i W W', Ix i W → Off w.heap.size (w.heap.size + 1) W W' → Ix i W') (hF : ∀ i x W W', Fx i x W → Off w.heap.size (w.heap.size + 1) W W' → Fx i x W')
    (hiter : IdxIter P (n - 1) gf lb w N I Fx) (h0 : I 0 w)
    (hassign : ∀ (l : Nat) (x : Value) (W : World) (K : Act → World → Prop), K (a1 x) W →
      assign.wpIn (Fence.wide.inRound l) (n - 1 - 1) P (Exit.then K (fun _ _ _ => False)) { tmps := (ps.zip #[x]).foldl (fun t (p, v) => t.setIfInBounds p v) a.tmps, defers := [] } W)
    (hbody : ∀ (l i : Nat) (x : Value) (W : World), i < N → I i W → Fx i x W → body.wpIn (Fence.wide.inRound l) (n - 1 - 1) P (idxPost W I Ix i) (a1 x) W)
    (hdone : ∀ (W : World), I N W → W.heap[w.heap.size]? = some (.deferred (some [])) → Q .normal { a with defers := { target := .collected w.heap.size, args := #[] } :: a.defers } W)
    (hstop : ∀ (i : Nat) (W : World), i < N → Ix i W → W.heap[w.heap.size]? = some (.deferred (some [])) → Code.ret.wpIn Fence.wide n P Q { a with defers := { target := .collected w.heap.size, args := #[] } :: a.defers } W) :
    (Code.rangeFunc g ps assign body).wpIn Fence.wide n P Q a w := by
  refine wpIn_rangeFunc fun fn hfn => ?_
  obtain ⟨rec, hrec⟩ : ∃ rec : LoopState → Option Code → Loop, rec = fun st pe => { state := st, pending := pe, fn, tmps := a.tmps, params := ps, assign, body, defers := w.heap.size } := ⟨_, rfl⟩
  obtain ⟨W1, hW1⟩ : ∃ W1, (w.alloc (.deferred (some []))).alloc (.loop (rec .ready none)) = W1 := ⟨_, rfl⟩
  have hb1 : Below w.heap.size w W1 := by rw [← hW1]; exact below_alloc (below_alloc (Below.refl _ _) _) _
  have hL1 : W1.heap[w.heap.size + 1]? = some (.loop (rec .ready none)) := by
    rw [← hW1]; have := World.alloc_heap_new (w.alloc (.deferred (some []))) (.loop (rec .ready none)); rwa [World.size_alloc] at this
  have hK1 : W1.heap[w.heap.size]? = some (.deferred (some [])) := by rw [← hW1]; exact block_alloc (World.alloc_heap_new w _) _
  refine ⟨w.heap.size + 1, [{ target := .collected w.heap.size, args := #[] }], W1, { target := .fn (.func gf) lb, args := #[.func (.yield (w.heap.size + 1)) #[] #[]] }, W1, gf, #[.func (.yield (w.heap.size + 1)) #[] #[]] ++ lb, W1, ?_, ?_, fun f' hf' => trivial, ?_, fun h => (by cases h), ?_⟩
  · rw [← hW1, hrec]; exact run_enterLoop_outer _ _ _ _ _
  · simp only [resolve, hg]
    simp [go_sem]
  · simp [invoke, go_sem, eg]
  refine (hiter (w.heap.size + 1)
    (fun i W => I i W ∧ W.heap[w.heap.size + 1]? = some (.loop (rec .ready none)) ∧ W.heap[w.heap.size]? = some (.deferred (some [])))
    (fun i W => Ix i W ∧ W.heap[w.heap.size + 1]? = some (.loop (rec .done (some .ret))) ∧ W.heap[w.heap.size]? = some (.deferred (some [])))
    (fun i W W' hs hb => ⟨hI i W W' hs.1 (Off.of_below hb), block_below hb hs.2.1, block_below hb hs.2.2⟩) (fun i W h => ⟨h.1, (Array.getElem?_eq_some_iff.1 h.2.1).1⟩) ?_ W1 ⟨hI 0 w W1 h0 (Off.of_below hb1), hL1, hK1⟩).mono ?_
  · rintro i x W hi ⟨hs, hl, hk⟩ hx
    have hlt : w.heap.size + 1 < W.heap.size := (Array.getElem?_eq_some_iff.1 hl).1
    have hy := run_yield (P := P) (args := #[x]) hl (by rw [hrec]; exact hps.symm)
    rw [hrec] at hy
    refine ⟨fn, _, assign, body, hy, roundIn_of_wpIn hfn (hassign _ x W _ ⟨_, run_beginRound hl (by rw [hrec]), ?_⟩)⟩
    have ob : Off w.heap.size (w.heap.size + 1) W (W.putObj (w.heap.size + 1) (.loop { rec .ready none with state := .busy })) := Off.put _ _ (.inr rfl)
    have hl2 : (W.putObj (w.heap.size + 1) (.loop { rec .ready none with state := .busy })).heap[w.heap.size + 1]? = some (.loop { rec .ready none with state := .busy }) := World.putObj_heap_same hlt
    have hk2 : (W.putObj (w.heap.size + 1) (.loop { rec .ready none with state := .busy })).heap[w.heap.size]? = some (.deferred (some [])) := (World.putObj_heap_other (by omega)).trans hk
    refine wpIn_mono (hbody _ i x _ hi (hI _ _ _ hs ob) (hF _ _ _ _ hx ob)) ?_
    rintro e a3 W3 hp
    cases e with
    | normal =>
      obtain ⟨hk3, hi3⟩ := hp
      have hl3 := hk3.same _ _ hl2 rfl
      have hr := run_endRound (P := P) none hl3
      have hsz := (Array.getElem?_eq_some_iff.1 hl3).1
      refine ⟨_, _, hr, .inl ⟨rfl, hI _ _ _ hi3 (Off.put _ _ (.inr rfl)), ?_, (World.putObj_heap_other (by omega)).trans (hk3.same _ _ hk2 rfl)⟩⟩
      rw [World.putObj_heap_same hsz, hrec]
      rfl
    | ret =>
      obtain ⟨hk3, hi3⟩ := hp
      have hl3 := hk3.same _ _ hl2 rfl
      have hr := run_endRound (P := P) (some .ret) hl3
      have hsz := (Array.getElem?_eq_some_iff.1 hl3).1
      refine ⟨_, _, hr, .inr ⟨rfl, hIx _ _ _ hi3 (Off.put _ _ (.inr rfl)), ?_, (World.putObj_heap_other (by omega)).trans (hk3.same _ _ hk2 rfl)⟩⟩
      rw [World.putObj_heap_same hsz, hrec]
      rfl
    | exit id => exact hp.elim
    | goto t => exact hp.elim
    | panic ch => exact hp.elim
    | outgrown => exact hp.elim
  · rintro e W2 ⟨⟨v, rfl⟩, (⟨hs, hl, hk⟩ | ⟨i, hi, hs, hl, hk⟩)⟩
    · have he := run_endLoop (P := P) hl (by rw [hrec]; simp)
      have hp : (rec .ready none).pending = none := by rw [hrec]
      rw [hp] at he
      exact ⟨none, _, he, hdone _ (hI _ _ _ hs (Off.put _ _ (.inr rfl))) ((World.putObj_heap_other (by omega)).trans hk)⟩
    · have he := run_endLoop (P := P) hl (by rw [hrec]; simp)
      have hp : (rec .done (some .ret)).pending = some .ret := by rw [hrec]
      rw [hp] at he
      exact ⟨some .ret, _, he, hstop i _ hi (hIx _ _ _ hs (Off.put _ _ (.inr rfl))) ((World.putObj_heap_other (by omega)).trans hk)⟩
end Go.Proofs.Sat
