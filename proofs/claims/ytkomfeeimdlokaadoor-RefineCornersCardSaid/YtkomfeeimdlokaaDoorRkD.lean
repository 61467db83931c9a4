/- For RefineCorners: the values alone; ref49.SameStates; refine.Corners. -/
import Derived.Test.YtkomfeeimdlokaaDoorRkC
import Derived.Test.YtkomfeeimdlokaaDoorRhB
set_option linter.unusedVariables false
set_option linter.unusedSimpArgs false
namespace Go.Proofs.Sat
open Go Go.RowKit
/-! ### The values alone -/
def rowV (k : Nat) (ws : List Nat) (s : Nat) : List Int × Nat := ws.foldl (fun a W => (a.1 ++ [((smV k W a.2).1 : Int)], (smV k W a.2).2)) ([], s)
def allV (ws : List Nat) (M s : Nat) : List (List Int) × Nat := (List.range M).foldl (fun a k => (a.1 ++ [(rowV k ws a.2).1], (rowV k ws a.2).2)) ([], s)
theorem row_vals_aux (k : Nat) : ∀ (vs : List (ByteArray × Int)) (a : List (ByteArray × Int) × Nat) (b : List Int × Nat), a.1.map Prod.snd = b.1 → a.2 = b.2 →
    (vs.foldl (smStep k) a).1.map Prod.snd = ((vs.map (fun v => widE v.2)).foldl (fun a W => (a.1 ++ [((smV k W a.2).1 : Int)], (smV k W a.2).2)) b).1 ∧ (vs.foldl (smStep k) a).2 = ((vs.map (fun v => widE v.2)).foldl (fun a W => (a.1 ++ [((smV k W a.2).1 : Int)], (smV k W a.2).2)) b).2
  | [], a, b, h1, h2 => ⟨h1, h2⟩
  | v :: vs, a, b, h1, h2 => by
    refine row_vals_aux k vs (smStep k a v) _ ?_ ?_
    · show ((a.1 ++ [(v.1, ((smV k (widE v.2) a.2).1 : Int))]).map Prod.snd) = b.1 ++ [((smV k (widE v.2) b.2).1 : Int)]
      rw [List.map_append, h1, h2]
      rfl
    · show (smV k (widE v.2) a.2).2 = (smV k (widE v.2) b.2).2
      rw [h2]
theorem row_vals (k : Nat) (vs : List (ByteArray × Int)) (s : Nat) : (smRow k vs s).1.map Prod.snd = (rowV k (vs.map (fun v => widE v.2)) s).1 ∧ (smRow k vs s).2 = (rowV k (vs.map (fun v => widE v.2)) s).2 := row_vals_aux k vs _ _ rfl rfl
theorem allV_succ (ws : List Nat) (M s : Nat) : allV ws (M + 1) s = ((allV ws M s).1 ++ [(rowV M ws (allV ws M s).2).1], (rowV M ws (allV ws M s).2).2) := by
  unfold allV
  rw [List.range_succ, List.foldl_append]
  rfl
theorem all_vals (vs : List (ByteArray × Int)) (s : Nat) : ∀ M, (smAll vs M s).1.map (fun r => r.map Prod.snd) = (allV (vs.map (fun v => widE v.2)) M s).1 ∧ (smAll vs M s).2 = (allV (vs.map (fun v => widE v.2)) M s).2
  | 0 => ⟨rfl, rfl⟩
  | M + 1 => by
    obtain ⟨h1, h2⟩ := all_vals vs s M
    rw [smAll_succ, allV_succ]
    obtain ⟨r1, r2⟩ := row_vals M vs (smAll vs M s).2
    rw [← h2]
    refine ⟨?_, r2⟩
    show ((smAll vs M s).1 ++ [(smRow M vs (smAll vs M s).2).1]).map (fun r => r.map Prod.snd) = _
    rw [List.map_append, h1]
    show _ ++ [(smRow M vs (smAll vs M s).2).1.map Prod.snd] = _
    rw [r1]
/-- The states that Corners tells. -/
def crnL (W N many : Int) (s : Nat) : List (List Int) := (allV (List.replicate (numE N) (widE W)) (numM many) s).1
theorem crn_of {W N many : Int} {s : Nat} {vs : List (ByteArray × Int)} (h1 : vs.length = numE N) (h2 : ∀ v ∈ vs, widE v.2 = widE W) : (smAll vs (numM many) s).1.map (fun r => r.map Prod.snd) = crnL W N many s := by
  rw [(all_vals vs s (numM many)).1]
  unfold crnL
  have : vs.map (fun v => widE v.2) = List.replicate (numE N) (widE W) := by
    rw [List.eq_replicate_iff]
    refine ⟨by rw [List.length_map, h1], fun b hb => ?_⟩
    obtain ⟨v, hv, rfl⟩ := List.mem_map.1 hb
    exact h2 v hv
  rw [this]
theorem infoU64s' : ElemInfo Tryd.prog 30 25 (.slice none 0 0) 1 24 := ⟨Tryd.underlying30, by kernel_rfl, rfl, by decide⟩
/-- make of no elements, with room. -/
theorem run_mk0 {P : Program} (w : World) {α : Type} (d : Kd α) {t e : TypeId} {z : Value} {size bytes : Nat} (I : ElemInfo P t e z size bytes) (hd : d.sz = size) (S : Nat → Prop) {base : Nat} (kl kc : IntKind) (C : Int) (n : Nat) (hC : C = n) (hb : bytes * n ≤ 281474976710656) (h63 : n ≤ 9223372036854775807) (hbase : base ≤ w.heap.size) :
    ∃ v' w', (Instr.makeSlice t (.int kl 0) (.int kc C)).run P w = .ok v' w' ∧ Own d e S w' base v' [] ∧ w.grownBy w' none ∧ v' = .slice (some ⟨w.heap.size, 0, none⟩) 0 n := by
  obtain ⟨i, hi, h2, h3, h4⟩ := info_parts I.hi
  subst hC hd
  obtain ⟨w', hr, ho, hg⟩ := run_make_own (P := P) w base t e i _ d.sz I.ht hi h2 h3 kl kc n (by rw [h4]; exact hb) (by simpa [maxLen] using h63) hbase
  exact ⟨_, w', hr, ⟨[], by simpa using ho, .nil⟩, hg, rfl⟩
set_option maxHeartbeats 1000000 in
theorem ref49_SameStates (S1 S2 : Nat → Prop) (a1 a2 : Option Addr) (c1 c2 : Nat) (l1 l2 : List (List Int)) (w : World) (h1 : Rd (Kd.slice (Kd.int .u64)) S1 w a1 c1 l1) (h2 : Rd (Kd.slice (Kd.int .u64)) S2 w a2 c2 l2) (he : l1 = l2) :
    Calls Tryd.prog 9 #[.slice a1 l1.length c1, .slice a2 l1.length c2] w fun e w' => e = .returned (.bool true) ∧ Drawn w w' := by
  subst he
  have H1 := Lib.hid h1
  have H2 := Lib.hid h2
  have hl1 := h1.le
  clear h1 h2
  go_enter Tryd.func9, Tryd.ntmps9
  go_wp2_with fail
  go_loopw [5] (fun i wr => ∃ k : Nat, k ≤ l1.length ∧ i = .int .i64 k ∧ Hid (Drawn w wr)) (fun i _ => l1.length - (intOf i).toNat)
  case atStart => exact ⟨0, by omega, rfl, Drawn.refl _⟩
  case round =>
    obtain ⟨k, hk, rfl, HD⟩ := hrel
    by_cases hlt : k < l1.length
    · obtain ⟨b, o, cs, rfl, -, -, hk1, hc1⟩ := (H1.out.frame (Same.drawn _ HD.out)).elem hlt
      obtain ⟨x1, y1, rfl, r1⟩ := hk1
      obtain ⟨b2, o2, cs2, rfl, -, -, hk2, hc2⟩ := (H2.out.frame (Same.drawn _ HD.out)).elem hlt
      obtain ⟨x2, y2, rfl, r2⟩ := hk2
      have d1 := hc1 0 _ rfl
      have d2 := hc2 0 _ rfl
      have hsz : (Kd.slice (Kd.int .u64)).sz = 1 := rfl
      rw [hsz, Nat.mul_one, Nat.add_zero] at d1 d2
      have CS0 := Lib.hid (fun W (hd : Drawn wr W) => ref49_Same _ _ x1 x2 y1 y2 l1[k] l1[k] W (r1.frame (Same.drawn _ hd)) (r2.frame (Same.drawn _ hd)))
      rw [decide_eq_true rfl] at CS0
      clear hc1 hc2 hsz r1 r2
      generalize l1[k] = l at *
      obtain ⟨ln, hln⟩ : ∃ n, n = l.length := ⟨_, rfl⟩
      rw [← hln] at CS0 d1 d2
      clear hln
      go_wp2_with fail
      go_quiet ((go_at_call 6; exact Calls.quiet_of (CS0.out _ (by exact Drawn.of _ _))))
      go_wp2_with fail
      go_roundw
      case rel => exact ⟨k + 1, by omega, by go_num, HD.out.trans (Drawn.of _ _)⟩
      case measure => simp [intOf]; omega
    · have hnl : ¬ ((k : Int) < (l1.length : Int)) := by omega
      go_wp2_with fail
      go_ret
      exact ⟨rfl, HD.out⟩
end Go.Proofs.Sat
