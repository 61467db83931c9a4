/- The walk of term.Var, rows of one-cell elements that are written in place, and plain words for Needed. -/
import Derived.Test.YtgjdpjefoaohkaaDoorPrD
set_option linter.unusedVariables false
set_option linter.unusedSimpArgs false
namespace Go.Proofs.Sat
open Go Go.RowKit
set_option maxHeartbeats 400000 in
theorem term_Var (s : ByteArray) (w : World) :
    Calls Tryd.prog 31 #[.string s, .int .i64 8] w fun e w' => e = .returned (tmVal (.mk 1 8 0 s []) none 0) ∧ Below w.heap.size w w' := by
  go_enter Tryd.func31, Tryd.ntmps31
  go_wp2
  refine bodyPost_ret_block (cs := #[.int .i64 1, .int .i64 8, .int .u64 0, .string s, .slice none 0 0]) (t0 := 34) w.heap.size (0, 0) _ rfl rfl (heap_alloc_new w _) Tryd.underlying34 rfl (by kernel_rfl) rfl ?_
  exact ⟨rfl, (Below.refl _ _).alloc (Nat.le_refl _) _⟩
/-- A store into a row of one's own (one-cell elements). -/
theorem Own.set {α : Type} {enc : α → Value} {h1 : ∀ x, (enc x).oneCell' = true} {e : TypeId} {S : Nat → Prop} {w : World} {base g n c : Nat} {xs : List α} (h : Own (Kd.val enc h1) e S w base (.slice (some ⟨g, 0, none⟩) n c) xs) (hn : xs.length = n) (i : Nat) (hi : i < n) (y : α) :
    Own (Kd.val enc h1) e S (w.setCell ⟨g, i, none⟩ (enc y)) base (.slice (some ⟨g, 0, none⟩) n c) (xs.set i y) := by
  subst hn
  rcases h.block with ⟨h0, _⟩ | ⟨g', cap, cur, hv, hb, hlt, hg, q1, q2, q3, q4⟩
  · cases h0
  · cases hv
    have hz : cur.toList = xs.map enc ++ cur.toList.drop xs.length := by
      rw [← q4, List.take_append_drop]
    have := Own.of_block (enc := enc) (h1 := h1) (e := e) (w := w.setCell ⟨g, i, none⟩ (enc y)) (g := g) (cap := c) (cur := cur.setIfInBounds i (enc y)) (xs := xs.set i y) S hb (by simp [World.setCell, Array.getElem?_modify, hg]) (by simpa using q1) q2 (by simpa using q3) (by
      rw [Array.toList_setIfInBounds, List.length_set, List.map_set, ← q4, List.take_set])
    simpa using this
/-- The cells of a row of one's own (one-cell elements), and that they may be written. -/
theorem Own.at {α : Type} {enc : α → Value} {h1 : ∀ x, (enc x).oneCell' = true} {e : TypeId} {S : Nat → Prop} {w : World} {base g n c : Nat} {xs : List α} (h : Own (Kd.val enc h1) e S w base (.slice (some ⟨g, 0, none⟩) n c) xs) (hn : xs.length = n) :
    (∀ j (hj : j < xs.length), w.cell? ⟨g, j, none⟩ = some (enc xs[j])) ∧ (∀ j, w.frozen? ⟨g, j, none⟩ = false) := by
  subst hn
  rcases h.block with ⟨h0, _⟩ | ⟨g', cap, cur, hv, hb, hlt, hg, q1, q2, q3, q4⟩
  · cases h0
  · cases hv
    refine ⟨fun j hj => ?_, fun j => frozen_of_block hg⟩
    rw [cell_of_row _ _ j _ _ _ hg]
    have := congrArg (·[j]?) q4
    simpa [hj] using this
/-- Ahead of an arm for make: it fails at once at any other operation. -/
theorem gate_m {P : Program} {ops : Array Oper} {rest : List Oper} {o : Oper} {a : Act} {Q : Exit → Act → World → Prop} {w : World} (T : TypeId) (s x : Operand) (_ : o.op = .makeSlice T s x) (k : wpList P ops Q (o :: rest) a w) : wpList P ops Q (o :: rest) a w := k
theorem infoBool : ElemInfo Tryd.prog 58 4 (.bool false) 1 1 := ⟨Tryd.underlying58, by kernel_rfl, rfl, by decide⟩
theorem infoInt : ElemInfo Tryd.prog 28 3 (.int .i64 0) 1 8 := ⟨Tryd.underlying28, by kernel_rfl, rfl, by decide⟩
theorem firstBad_all : ∀ (l : List St) (n : Nat), firstBad l n = none → ∀ j (h : j < l.length), wellB l[j] ((n + j : Nat) : Int) = true
  | [], _, _, j, h => by simp at h
  | x :: r, n, hf, j, h => by
    unfold firstBad at hf
    split at hf
    · rename_i hw
      cases j with
      | zero => simpa using hw
      | succ j =>
        have := firstBad_all r (n + 1) hf j (by simpa using h)
        simpa [Nat.add_assoc, Nat.add_comm 1 j] using this
    · cases hf
theorem chk_ok {l : List St} (h : (chk l).2 = 0) : 0 < l.length ∧ l.length ≤ 65536 ∧ ∀ j (hj : j < l.length), wellB l[j] (j : Nat) = true := by
  unfold chk at h
  split at h
  · cases h
  · split at h
    · cases h
    · split at h
      · cases h
      · rename_i h1 h2 h3
        exact ⟨by omega, by omega, fun j hj => by simpa using firstBad_all l 0 h3 j hj⟩
/-- One step's marks. -/
def markRefs (need : List Bool) (refs : List Int) : List Bool := refs.foldl (fun a r => a.set r.toNat true) need
def stepNeed (l : List St) (need : List Bool) (i : Nat) : List Bool := if need.getD i false = true then markRefs need ((l[i]?.map (·.refs)).getD []) else need
def needK (l : List St) : Nat → List Bool
  | 0 => (List.replicate l.length false).set (l.length - 1) true
  | j + 1 => stepNeed l (needK l j) (l.length - 1 - j)
def needAll (l : List St) : List Bool := needK l l.length
theorem markRefs_length (refs : List Int) : ∀ need, (markRefs need refs).length = need.length := by
  induction refs with
  | nil => intro need; rfl
  | cons r refs ih => intro need; show (markRefs (need.set r.toNat true) refs).length = _; rw [ih]; simp
theorem needK_length (l : List St) (j : Nat) : (needK l j).length = l.length := by
  induction j with
  | zero => simp [needK]
  | succ j ih =>
    unfold needK stepNeed
    split
    · rw [markRefs_length, ih]
    · exact ih
theorem markRefs_snoc (need : List Bool) (refs : List Int) (r : Int) : markRefs need (refs ++ [r]) = (markRefs need refs).set r.toNat true := by
  unfold markRefs
  rw [List.foldl_append]
  rfl
theorem markRefs_other (refs : List Int) (i : Nat) : ∀ need, (∀ r ∈ refs, r.toNat ≠ i) → (markRefs need refs)[i]? = need[i]? := by
  induction refs with
  | nil => intro need _; rfl
  | cons r refs ih =>
    intro need h
    show (markRefs (need.set r.toNat true) refs)[i]? = _
    rw [ih _ fun x hx => h x (by simp [hx])]
    rw [List.getElem?_set_ne (h r (by simp))]
/-- A step's marks after k of its Refs. -/
def curNeed (nd : List Bool) (b : Bool) (refs : List Int) (k : Nat) : List Bool := if b = true then markRefs nd (refs.take k) else nd
theorem curNeed_length (nd : List Bool) (b : Bool) (refs : List Int) (k : Nat) : (curNeed nd b refs k).length = nd.length := by
  unfold curNeed
  split
  · exact markRefs_length _ _
  · rfl
theorem curNeed_zero (nd : List Bool) (b : Bool) (refs : List Int) : curNeed nd b refs 0 = nd := by
  unfold curNeed markRefs
  simp
theorem curNeed_succ (nd : List Bool) (b : Bool) (refs : List Int) {k : Nat} (hk : k < refs.length) (hr : (refs[k]).toNat < (curNeed nd b refs k).length) :
    curNeed nd b refs (k + 1) = (curNeed nd b refs k).set (refs[k]).toNat ((curNeed nd b refs k)[(refs[k]).toNat] || b) := by
  cases b
  · simp [curNeed]
  · simp only [curNeed, if_pos, Bool.or_true]
    rw [List.take_succ_eq_append_getElem hk, markRefs_snoc]
theorem curNeed_at (nd : List Bool) (b : Bool) (refs : List Int) (k i : Nat) (h : ∀ r ∈ refs, r.toNat ≠ i) : (curNeed nd b refs k)[i]? = nd[i]? := by
  unfold curNeed
  split
  · exact markRefs_other _ _ _ fun r hr => h r (List.mem_of_mem_take hr)
  · rfl
theorem wellB_refs {x : St} {i : Int} (h : wellB x i = true) : ∀ r ∈ x.refs, 0 ≤ r ∧ r < i := by
  unfold wellB at h
  rw [Bool.and_eq_true, List.all_eq_true] at h
  intro r hr
  have := h.2 r hr
  simpa using this
theorem needK_succ (l : List St) (j : Nat) (h : l.length - 1 - j < l.length) : needK l (j + 1) = curNeed (needK l j) ((needK l j).getD (l.length - 1 - j) false) l[l.length - 1 - j].refs l[l.length - 1 - j].refs.length := by
  show stepNeed l (needK l j) (l.length - 1 - j) = _
  unfold stepNeed curNeed
  rw [List.take_length, List.getElem?_eq_getElem h]
  rfl
/-- The indices below k at which a list holds true. -/
def trueK (nd : List Bool) (k : Nat) : List Int := ((List.range k).filter fun i => nd.getD i false).map Int.ofNat
theorem trueK_succ (nd : List Bool) {k : Nat} (hk : k < nd.length) : trueK nd (k + 1) = if nd[k] = true then trueK nd k ++ [(k : Int)] else trueK nd k := by
  unfold trueK
  rw [List.range_succ, List.filter_append, List.map_append]
  by_cases h : nd[k] = true <;> simp [hk, h]
theorem trueK_length (nd : List Bool) (k : Nat) : (trueK nd k).length ≤ k := by
  unfold trueK
  rw [List.length_map]
  exact Nat.le_trans (List.length_filter_le _ _) (by simp)
def needed (l : List St) : List Int := if (chk l).2 = 0 then trueK (needAll l) l.length else []
end Go.Proofs.Sat
