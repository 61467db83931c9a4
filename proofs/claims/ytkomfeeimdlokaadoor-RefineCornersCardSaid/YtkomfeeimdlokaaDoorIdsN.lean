/- The walks of idset.merge and of what calls it: union, intersection, difference. -/
import Derived.Test.YtkomfeeimdlokaaDoorIdsO
import Derived.Test.YtkomfeeimdlokaaDoorOps2
set_option linter.unusedVariables false
set_option linter.unusedSimpArgs false
namespace Go.Proofs.Sat
open Go Go.RowKit

/-- What a merge takes of two sets. -/
def mrg (tk : Bool → Bool → Bool) (a b : List Int) : List Int := (ofL (a ++ b)).filter fun z => tk (decide (z ∈ a)) (decide (z ∈ b))
theorem ss_mrg (tk : Bool → Bool → Bool) (a b : List Int) : SS (mrg tk a b) := (ss_ofL _).filter _
theorem mem_mrg (tk : Bool → Bool → Bool) (a b : List Int) (z : Int) : z ∈ mrg tk a b ↔ (z ∈ a ∨ z ∈ b) ∧ tk (decide (z ∈ a)) (decide (z ∈ b)) = true := by
  simp [mrg, List.mem_filter, mem_ofL]
theorem mrg_nil (tk : Bool → Bool → Bool) : mrg tk [] [] = [] := rfl
def opt (c : Bool) (x : Int) : List Int := if c then [x] else []
theorem mem_opt (c : Bool) (x z : Int) : z ∈ opt c x ↔ c = true ∧ z = x := by cases c <;> simp [opt]
theorem ss_opt {c : Bool} {x : Int} {l : List Int} (h : SS l) (hl : ∀ y ∈ l, x < y) : SS (opt c x ++ l) := by
  cases c
  · simpa [opt] using h
  · simp only [opt, if_true, List.cons_append, List.nil_append]
    exact List.pairwise_cons.2 ⟨hl, h⟩
theorem mrg_left (tk : Bool → Bool → Bool) {x : Int} {a b : List Int} (ha : SS (x :: a)) (hb : ∀ y ∈ b, x < y) : mrg tk (x :: a) b = opt (tk true false) x ++ mrg tk a b := by
  have hx := List.pairwise_cons.1 ha
  refine ss_ext (ss_mrg _ _ _) (ss_opt (ss_mrg _ _ _) fun y hy => ?_) fun z => ?_
  · rcases ((mem_mrg ..).1 hy).1 with h | h
    · exact hx.1 y h
    · exact hb y h
  · simp only [mem_mrg, List.mem_append, mem_opt, List.mem_cons]
    by_cases e : z = x
    · subst e
      have h1 : ¬ z ∈ b := fun h => by have := hb z h; omega
      have h2 : ¬ z ∈ a := fun h => by have := hx.1 z h; omega
      simp [h1, h2]
    · simp [e]
theorem mrg_right (tk : Bool → Bool → Bool) {y : Int} {a b : List Int} (hb : SS (y :: b)) (ha : ∀ x ∈ a, y < x) : mrg tk a (y :: b) = opt (tk false true) y ++ mrg tk a b := by
  have hy := List.pairwise_cons.1 hb
  refine ss_ext (ss_mrg _ _ _) (ss_opt (ss_mrg _ _ _) fun x hx => ?_) fun z => ?_
  · rcases ((mem_mrg ..).1 hx).1 with h | h
    · exact ha x h
    · exact hy.1 x h
  · simp only [mem_mrg, List.mem_append, mem_opt, List.mem_cons]
    by_cases e : z = y
    · subst e
      have h1 : ¬ z ∈ a := fun h => by have := ha z h; omega
      have h2 : ¬ z ∈ b := fun h => by have := hy.1 z h; omega
      simp [h1, h2]
    · simp [e]
theorem mrg_both (tk : Bool → Bool → Bool) {x : Int} {a b : List Int} (ha : SS (x :: a)) (hb : SS (x :: b)) : mrg tk (x :: a) (x :: b) = opt (tk true true) x ++ mrg tk a b := by
  have hx := List.pairwise_cons.1 ha
  have hy := List.pairwise_cons.1 hb
  refine ss_ext (ss_mrg _ _ _) (ss_opt (ss_mrg _ _ _) fun z hz => ?_) fun z => ?_
  · rcases ((mem_mrg ..).1 hz).1 with h | h
    · exact hx.1 z h
    · exact hy.1 z h
  · simp only [mem_mrg, List.mem_append, mem_opt, List.mem_cons]
    by_cases e : z = x
    · subst e
      have h1 : ¬ z ∈ a := fun h => by have := hx.1 z h; omega
      have h2 : ¬ z ∈ b := fun h => by have := hy.1 z h; omega
      simp [h1, h2]
    · simp [e]
theorem length_mrg (tk : Bool → Bool → Bool) (a b : List Int) : (mrg tk a b).length ≤ a.length + b.length := by
  have h1 := List.length_filter_le (fun z => tk (decide (z ∈ a)) (decide (z ∈ b))) (ofL (a ++ b))
  have h2 := length_ofL (a ++ b)
  simp at h2
  unfold mrg
  omega

/-- The two boxes of a merge: what is asked, and what is gathered. -/
def Boxes (n : Nat) (w : World) (g5 g7 B : Nat) (out : List Int) : Prop :=
  B ≤ g7 ∧ g5 ≠ g7 ∧ w.heap[g5]? = some (.cells #[.func (.func n) #[] #[]] 87 (0, 0)) ∧
    ∃ v, w.heap[g7]? = some (.cells #[v] 22 (0, 0)) ∧ Own (Kd.int .i64) 3 NoS w B v out ∧ some g5 ≠ v.ownBlock ∧ some g7 ≠ v.ownBlock
theorem Boxes.drawn {n : Nat} {w w' : World} {g5 g7 B : Nat} {out : List Int} (h : Boxes n w g5 g7 B out) (hd : Drawn w w') : Boxes n w' g5 g7 B out := by
  obtain ⟨x, rfl⟩ := hd
  obtain ⟨h7, h57, hb5, v, hb7, ho, h8, h9⟩ := h
  exact ⟨h7, h57, hb5, v, hb7, ho.drewN x, h8, h9⟩
/-- A function that says what a merge takes. -/
structure Taker (n : Nat) (tk : Bool → Bool → Bool) : Prop where
  run : ∀ (args : Array Value) (w : World), (callFunc n args).run Tryd.prog w = .ok (.enter n args) w
  calls : ∀ (w : World) (p q : Bool), Calls Tryd.prog n #[.bool p, .bool q] w fun e w' => e = .returned (.bool (tk p q)) ∧ Drawn w w'
theorem taker_or : Taker 47 fun _ _ => true where
  run args w := by simp [callFunc, Tryd.func47, go_sem]; rfl
  calls w p q := by
    go_enter Tryd.func47, Tryd.ntmps47
    go_wp2
    go_ret
    exact ⟨rfl, Drawn.refl _⟩
theorem merge_visit (n : Nat) (tk : Bool → Bool → Bool) (T : Taker n tk)
    (w : World) (g5 g7 B : Nat) (out : List Int) (x : Int) (p q : Bool) (h : Boxes n w g5 g7 B out) (hl : out.length ≤ 4398046511104) :
    Calls Tryd.prog 57 #[.int .i64 x, .bool p, .bool q, .pointer (some ⟨g5, 0, none⟩), .pointer (some ⟨g7, 0, none⟩)] w fun e w' =>
      e = .returned (.tuple #[]) ∧ Boxes n w' g5 g7 B (out ++ opt (tk p q) x) ∧ Below B w w' := by
  obtain ⟨h7, h57, hb5, v, hb7, ho, h8, h9⟩ := h
  have c5 := cell_of_block hb5
  have c7 := cell_of_block hb7
  have f7 := frozen_of_block (o := 0) hb7
  have hz5 := (Array.getElem?_eq_some_iff.1 hb5).1
  have hz7 := (Array.getElem?_eq_some_iff.1 hb7).1
  have hrun := T.run
  go_enter Tryd.func57, Tryd.ntmps57
  cases htk : tk p q with
  | false =>
    have H := Lib.hid htk
    clear htk
    go_wp2_with (first
      | (refine (T.calls _ p q).mono ?_; rw [H.out]; rintro e w1 ⟨rfl, nd, rfl⟩)
      | fail)
    go_end0
    refine ⟨rfl, ⟨h7, h57, hb5, v, hb7, ?_, h8, h9⟩, (Drawn.of _ _).below B⟩
    simpa [opt] using ho.drewN nd
  | true =>
    have H := Lib.hid htk
    clear htk
    go_wp2_with (first
      | (refine (T.calls _ p q).mono ?_; rw [H.out]; rintro e w1 ⟨rfl, hd⟩; have c7 := hd.cell c7; have f7 := hd.frozen f7; have ho := ho.drawn hd; have hb7 := block_alloc (hd.heap hb7) (.cells #[.int .i64 x] 3); have hb5 := block_alloc (hd.heap hb5) (.cells #[.int .i64 x] 3); have hz7 : g7 < w1.heap.size := by (rw [hd.size]; exact hz7))
      | (at_builtin; refine wpList_append_ev _ rfl _ _ 22 rfl _ _ rfl rfl _ (run_app _ infoInt rfl _ (ho.alloc _) ⟨w1.heap.size, 0, none⟩ 1 1 [.int .i64 x] [x] rfl (elems_vals [x]) (cell_one_new w1 _ _) (by omega) (by omega) (by simp; omega)) ?_; rintro v' w2 ⟨ho2, hg2, hv2⟩; have hb7 := block_grown hg2 hb7 h9; have hb5 := block_grown hg2 hb5 h8; obtain ⟨a', c', rfl⟩ := ho2.form; have c7 := cell_of_block hb7; have f7 := frozen_of_block (o := 0) hb7)
      | fail)
    go_end0
    have hz5' : g5 < (w1.alloc (.cells #[.int .i64 x] 3)).heap.size := by simp; rw [hd.size]; omega
    have hz7' : g7 < (w1.alloc (.cells #[.int .i64 x] 3)).heap.size := by simp; omega
    simp only [List.length_append, List.length_cons, List.length_nil, Nat.zero_add] at ho2 hv2
    have n5 : some g5 ≠ (Value.slice a' (out.length + 1) c').ownBlock := by
      rcases hv2 with e | e <;> rw [e]
      · exact h8
      · intro e; cases e; omega
    have n7 : some g7 ≠ (Value.slice a' (out.length + 1) c').ownBlock := by
      rcases hv2 with e | e <;> rw [e]
      · exact h9
      · intro e; cases e; omega
    refine ⟨rfl, ⟨h7, h57, block_far hb5 _ h57, _, block_set hb7, ?_, n5, n7⟩, ?_⟩
    · simp only [opt, if_true]
      refine ho2.same (Same.setCell _ _ fun b hb => ?_)
      rcases hb with hb | hb
      · exact hb.elim
      · intro e
        have h7' : b = g7 := e
        subst h7'
        exact n7 hb
    · refine Below.setCell (p := ⟨g7, 0, none⟩) ?_ h7 _
      refine Below.grown (row := v.ownBlock) ?_ hg2 (by omega) (fun k hk => (ho.lt k hk).1)
      exact (hd.below B).alloc (by omega) _

theorem Rd.head {x : Int} {S : Nat → Prop} {w : World} {a : Option Addr} {c : Nat} {l : List Int} (h : Rd (Kd.int .i64) S w a c (x :: l)) : ∃ b o, a = some ⟨b, o, none⟩ ∧ w.cell? ⟨b, o, none⟩ = some (.int .i64 x) := by
  obtain ⟨b, o, rfl, _, _, hc⟩ := h.vals (by simp) 0
  exact ⟨b, o, rfl, by simpa using hc 0 (by simp)⟩
set_option maxRecDepth 20000 in
set_option maxHeartbeats 800000 in
theorem idset_merge (n : Nat) (tk : Bool → Bool → Bool) (T : Taker n tk) (S1 S2 : Nat → Prop) (a1 a2 : Option Addr) (c1 c2 : Nat) (l1 l2 : List Int) (w : World) (h1 : Rd (Kd.int .i64) S1 w a1 c1 l1) (h2 : Rd (Kd.int .i64) S2 w a2 c2 l2)
    (hz1 : l1.length ≤ 1099511627776) (hz2 : l2.length ≤ 1099511627776) :
    Calls Tryd.prog 46 #[.slice a1 l1.length c1, .slice a2 l2.length c2, .func (.func n) #[] #[]] w fun e w' => ∃ v, e = .returned v ∧ Own (Kd.int .i64) 3 NoS w' w.heap.size v (mrg tk l1 l2) ∧ Below w.heap.size w w' := by
  have e0 : mrg tk (ofL l1) (ofL l2) = mrg tk l1 l2 := by
    refine ss_ext (ss_mrg _ _ _) (ss_mrg _ _ _) fun z => ?_
    simp only [mem_mrg, mem_ofL]
  have E0 : Hid (mrg tk l1 l2 = mrg tk (ofL l1) (ofL l2)) := e0.symm
  clear e0
  have hl1 := length_ofL l1
  have hl2 := length_ofL l2
  have h1 := h1.frame (Same.alloc S1 w (.cells #[.func (.func n) #[] #[]] 87))
  have h2 := h2.frame (Same.alloc S2 w (.cells #[.func (.func n) #[] #[]] 87))
  go_enter Tryd.func46, Tryd.ntmps46
  go_wp2_with (first
      | (go_at_call 56; refine (idset_set S1 a1 c1 l1 _ h1 (by omega)).mono ?_; rintro e w1 ⟨p1, q1, rfl, r1, b1⟩; have h2 := h2.frame (Same.below b1))
      | (go_at_call 56; refine (idset_set S2 a2 c2 l2 _ h2 (by omega)).mono ?_; rintro e w2 ⟨p2, q2, rfl, r2, b2⟩)
      | fail)
  have hsz1 := b1.size
  have hsz2 := b2.size
  simp at hsz1
  have hbx : Boxes n ((w2.alloc (.cells #[] 3)).alloc (.cells #[.slice (some ⟨w2.heap.size, 0, none⟩) 0 0] 22)) w.heap.size (w2.heap.size + 1) w2.heap.size [] := by
    refine ⟨by omega, by omega, block_alloc (block_alloc (block_below b2 (block_below b1 (heap_alloc_new w _))) _) _, .slice (some ⟨w2.heap.size, 0, none⟩) 0 0, ?_, ?_, ?_, ?_⟩
    · have := heap_alloc_new (w2.alloc (.cells #[] 3)) (.cells #[.slice (some ⟨w2.heap.size, 0, none⟩) 0 0] 22)
      simpa using this
    · exact Own.alloc (Own.of_block (enc := fun x => .int .i64 x) (xs := []) NoS (cur := #[]) (Nat.le_refl _) (heap_alloc_new w2 _) (by simp) (by simp) rfl rfl) _
    · simp [Value.ownBlock]; omega
    · simp [Value.ownBlock]
  have hbel : Below w.heap.size w ((w2.alloc (.cells #[] 3)).alloc (.cells #[.slice (some ⟨w2.heap.size, 0, none⟩) 0 0] 22)) := by
    refine below_alloc (below_alloc (below_then (below_then (Below.alloc (Below.refl w.heap.size w) (Nat.le_refl _) _) (by simp) b1) (by omega) b2) _) _
  have HM := Lib.hid hbx
  have r1 := (((r1.frame (Same.below b2)).mono (S' := fun b => b < w2.heap.size) fun b hb _ => hb).frame (Same.alloc _ _ (.cells #[] 3))).frame (Same.alloc _ _ (.cells #[.slice (some ⟨w2.heap.size, 0, none⟩) 0 0] 22))
  have r2 := ((r2.mono (S' := fun b => b < w2.heap.size) fun b hb _ => hb).frame (Same.alloc _ _ (.cells #[] 3))).frame (Same.alloc _ _ (.cells #[.slice (some ⟨w2.heap.size, 0, none⟩) 0 0] 22))
  have hM : w.heap.size ≤ w2.heap.size := by omega
  clear hbx b1 b2 hsz1 hsz2 h1 h2
  generalize (w2.alloc (.cells #[] 3)).alloc (.cells #[.slice (some ⟨w2.heap.size, 0, none⟩) 0 0] 22) = w3 at *
  generalize w2.heap.size + 1 = g7 at *
  generalize w2.heap.size = M at *
  have s1 := ss_ofL l1
  have s2 := ss_ofL l2
  go_loopw [0, 1] (fun u0 u1 wr => ∃ (A1 A2 : Option Addr) (C1 C2 : Nat) (k1 k2 out : List Int), u0 = .slice A1 k1.length C1 ∧ u1 = .slice A2 k2.length C2 ∧ Hid (Rd (Kd.int .i64) (fun b => b < M) wr A1 C1 k1) ∧ Hid (Rd (Kd.int .i64) (fun b => b < M) wr A2 C2 k2) ∧ SS k1 ∧ SS k2 ∧
      Hid (mrg tk l1 l2 = out ++ mrg tk k1 k2) ∧ Hid (Boxes n wr w.heap.size g7 M out) ∧ Hid (Below w.heap.size w wr))
    (fun u0 u1 _ => (match u0 with | .slice _ n _ => n | _ => 0) + (match u1 with | .slice _ n _ => n | _ => 0))
  case atStart => exact ⟨p1, p2, q1, q2, ofL l1, ofL l2, [], rfl, rfl, r1, r2, s1, s2, E0.out, HM.out, hbel⟩
  case round =>
    clear r1 r2 HM hbel s1 s2
    obtain ⟨A1, A2, C1, C2, k1, k2, out, rfl, rfl, R1, R2, s1, s2, HE, HM, HB⟩ := hrel
    have hout : out.length ≤ 4398046511104 := by
      have e1 := congrArg List.length HE.out
      have e2 := length_mrg tk l1 l2
      simp at e1
      omega
    cases k1 with
    | nil =>
      cases k2 with
      | nil =>
        obtain ⟨hM7, h57, hb5, v, hb7, ho, h8, h9⟩ := HM.out
        have c7 := cell_of_block hb7
        clear hb7 hb5
        go_wp2
        go_ret
        have e1 := HE.out
        rw [mrg_nil, List.append_nil] at e1
        rw [e1]
        exact ⟨v, rfl, ho.mono (fun _ _ h => h) hM, HB.out⟩
      | cons y k2 =>
        obtain ⟨b2, o2, rfl, cy⟩ := R2.out.head
        obtain ⟨A2', hcut2, hA2⟩ := cut_from (P := Tryd.prog) (Kd.int .i64) infoInt rfl (some ⟨b2, o2, none⟩) (y :: k2).length C2 1 (by simp)
        simp at hcut2
        have hA2 := Lib.hid hA2
        have t2 : (((k2.length : Int) + 1) == 0) = false := by rw [beq_eq_false_iff_ne]; omega
        have S2 := Lib.hid s2
        have T2 := List.pairwise_cons.1 s2
        have T2' := Lib.hid T2.2
        have U2 := Lib.hid T2.1
        clear s2 T2
        go_wp2
        go_quiet (fail)
        go_wp2
        go_quiet (fail)
        go_wp2_with (first
          | (go_at_call 57; refine (merge_visit n tk T _ _ _ M out y false true (by exact Boxes.drawn HM.out (Drawn.of _ _)) hout).mono ?_; rintro e w4 ⟨rfl, hbx, hbl⟩; have HM4 := Lib.hid hbx; have HB4 := Lib.hid hbl; clear hbx hbl)
          | fail)
        go_roundw
        case rel =>
          refine ⟨A1, A2', C1, C2 - 1, [], k2, out ++ opt (tk false true) y, by simp, by simp, ((R1.out.frame (Same.drewN _ _ _)).frame ⟨HB4.out.size, fun b hb _ => HB4.out.block b hb⟩), (hA2.out _ _ (y :: k2) rfl ((R2.out.frame (Same.drewN _ _ _)).frame ⟨HB4.out.size, fun b hb _ => HB4.out.block b hb⟩)), s1, T2'.out, ?_, HM4.out, ?_⟩
          · show _ = _
            rw [HE.out, mrg_right tk S2.out (by simp)]; simp
          · exact HB.out.trans ⟨HB4.out.os, HB4.out.tape, HB4.out.output, HB4.out.size, fun k hk => HB4.out.block k (by omega)⟩
        case measure => simp <;> omega
    | cons x k1 =>
      obtain ⟨b1, o1, rfl, cx⟩ := R1.out.head
      obtain ⟨A1', hcut1, hA1⟩ := cut_from (P := Tryd.prog) (Kd.int .i64) infoInt rfl (some ⟨b1, o1, none⟩) (x :: k1).length C1 1 (by simp)
      simp at hcut1
      have hA1 := Lib.hid hA1
      have t1 : (((k1.length : Int) + 1) == 0) = false := by rw [beq_eq_false_iff_ne]; omega
      have S1 := Lib.hid s1
      have T1 := List.pairwise_cons.1 s1
      have T1' := Lib.hid T1.2
      have U1 := Lib.hid T1.1
      clear s1 T1
      cases k2 with
      | nil =>
        go_wp2
        go_quiet (fail)
        go_wp2_with (first
          | (go_at_call 57; refine (merge_visit n tk T _ _ _ M out x true false (by exact Boxes.drawn HM.out (Drawn.of _ _)) hout).mono ?_; rintro e w4 ⟨rfl, hbx, hbl⟩; have HM4 := Lib.hid hbx; have HB4 := Lib.hid hbl; clear hbx hbl)
          | fail)
        go_roundw
        case rel =>
          refine ⟨A1', A2, C1 - 1, C2, k1, [], out ++ opt (tk true false) x, by simp, by simp, (hA1.out _ _ (x :: k1) rfl ((R1.out.frame (Same.drewN _ _ _)).frame ⟨HB4.out.size, fun b hb _ => HB4.out.block b hb⟩)), ((R2.out.frame (Same.drewN _ _ _)).frame ⟨HB4.out.size, fun b hb _ => HB4.out.block b hb⟩), T1'.out, s2, ?_, HM4.out, ?_⟩
          · show _ = _
            rw [HE.out, mrg_left tk S1.out (by simp)]; simp
          · exact HB.out.trans ⟨HB4.out.os, HB4.out.tape, HB4.out.output, HB4.out.size, fun k hk => HB4.out.block k (by omega)⟩
        case measure => simp <;> omega
      | cons y k2 =>
        obtain ⟨b2, o2, rfl, cy⟩ := R2.out.head
        obtain ⟨A2', hcut2, hA2⟩ := cut_from (P := Tryd.prog) (Kd.int .i64) infoInt rfl (some ⟨b2, o2, none⟩) (y :: k2).length C2 1 (by simp)
        simp at hcut2
        have hA2 := Lib.hid hA2
        have t2 : (((k2.length : Int) + 1) == 0) = false := by rw [beq_eq_false_iff_ne]; omega
        have S2 := Lib.hid s2
        have T2 := List.pairwise_cons.1 s2
        have T2' := Lib.hid T2.2
        have U2 := Lib.hid T2.1
        clear s2 T2
        rcases Int.lt_trichotomy x y with hxy | hxy | hxy
        · have d1 : decide (x < y) = true := decide_eq_true hxy
          go_wp2
          go_quiet (fail)
          go_wp2_with (first
            | (go_at_call 57; refine (merge_visit n tk T _ _ _ M out x true false (by exact Boxes.drawn HM.out (Drawn.of _ _)) hout).mono ?_; rintro e w4 ⟨rfl, hbx, hbl⟩; have HM4 := Lib.hid hbx; have HB4 := Lib.hid hbl; clear hbx hbl)
            | fail)
          go_roundw
          case rel =>
            refine ⟨A1', _, C1 - 1, C2, k1, y :: k2, out ++ opt (tk true false) x, by simp, by simp, (hA1.out _ _ (x :: k1) rfl ((R1.out.frame (Same.drewN _ _ _)).frame ⟨HB4.out.size, fun b hb _ => HB4.out.block b hb⟩)), ((R2.out.frame (Same.drewN _ _ _)).frame ⟨HB4.out.size, fun b hb _ => HB4.out.block b hb⟩), T1'.out, S2.out, ?_, HM4.out, ?_⟩
            · show _ = _
              rw [HE.out, mrg_left tk S1.out (fun z hz => by rcases List.mem_cons.1 hz with e | e; (· omega); (· have := U2.out z e; omega))]; simp
            · exact HB.out.trans ⟨HB4.out.os, HB4.out.tape, HB4.out.output, HB4.out.size, fun k hk => HB4.out.block k (by omega)⟩
          case measure => simp <;> omega
        · subst hxy
          have d1 : decide (x < x) = false := by simp
          go_wp2
          go_quiet (fail)
          go_wp2
          go_quiet (fail)
          go_wp2_with (first
            | (go_at_call 57; refine (merge_visit n tk T _ _ _ M out x true true (by exact Boxes.drawn HM.out (Drawn.of _ _)) hout).mono ?_; rintro e w4 ⟨rfl, hbx, hbl⟩; have HM4 := Lib.hid hbx; have HB4 := Lib.hid hbl; clear hbx hbl)
            | fail)
          go_quiet (fail)
          go_wp2
          go_roundw
          case rel =>
            refine ⟨A1', A2', C1 - 1, C2 - 1, k1, k2, out ++ opt (tk true true) x, by simp, by simp, ((hA1.out _ _ (x :: k1) rfl ((R1.out.frame (Same.drewN _ _ _)).frame ⟨HB4.out.size, fun b hb _ => HB4.out.block b hb⟩)).frame (Same.drewN _ _ _)), ((hA2.out _ _ (x :: k2) rfl ((R2.out.frame (Same.drewN _ _ _)).frame ⟨HB4.out.size, fun b hb _ => HB4.out.block b hb⟩)).frame (Same.drewN _ _ _)), T1'.out, T2'.out, ?_, HM4.out.drawn (Drawn.of _ _), ?_⟩
            · show _ = _
              rw [HE.out, mrg_both tk S1.out S2.out]; simp
            · exact below_drewN (HB.out.trans ⟨HB4.out.os, HB4.out.tape, HB4.out.output, HB4.out.size, fun k hk => HB4.out.block k (by omega)⟩) _
          case measure => simp <;> omega
        · have d1 : decide (x < y) = false := decide_eq_false (by omega)
          have d2 : decide (y < x) = true := decide_eq_true hxy
          go_wp2
          go_quiet (fail)
          go_wp2
          go_quiet (fail)
          go_wp2_with (first
            | (go_at_call 57; refine (merge_visit n tk T _ _ _ M out y false true (by exact Boxes.drawn HM.out (Drawn.of _ _)) hout).mono ?_; rintro e w4 ⟨rfl, hbx, hbl⟩; have HM4 := Lib.hid hbx; have HB4 := Lib.hid hbl; clear hbx hbl)
            | fail)
          go_roundw
          case rel =>
            refine ⟨_, A2', C1, C2 - 1, x :: k1, k2, out ++ opt (tk false true) y, by simp, by simp, ((R1.out.frame (Same.drewN _ _ _)).frame ⟨HB4.out.size, fun b hb _ => HB4.out.block b hb⟩), (hA2.out _ _ (y :: k2) rfl ((R2.out.frame (Same.drewN _ _ _)).frame ⟨HB4.out.size, fun b hb _ => HB4.out.block b hb⟩)), S1.out, T2'.out, ?_, HM4.out, ?_⟩
            · show _ = _
              rw [HE.out, mrg_right tk S2.out (fun z hz => by rcases List.mem_cons.1 hz with e | e; (· omega); (· have := U1.out z e; omega))]; simp
            · exact HB.out.trans ⟨HB4.out.os, HB4.out.tape, HB4.out.output, HB4.out.size, fun k hk => HB4.out.block k (by omega)⟩
          case measure => simp <;> omega

set_option maxRecDepth 20000 in
set_option maxHeartbeats 400000 in
theorem idset_Union (S1 S2 : Nat → Prop) (a1 a2 : Option Addr) (c1 c2 : Nat) (l1 l2 : List Int) (w : World) (h1 : Rd (Kd.int .i64) S1 w a1 c1 l1) (h2 : Rd (Kd.int .i64) S2 w a2 c2 l2) (hz1 : l1.length ≤ 1099511627776) (hz2 : l2.length ≤ 1099511627776) :
    Calls Tryd.prog 35 #[.slice a1 l1.length c1, .slice a2 l2.length c2] w fun e w' => ∃ v, e = .returned v ∧ Own (Kd.int .i64) 3 NoS w' w.heap.size v (ofL (l1 ++ l2)) ∧ Below w.heap.size w w' := by
  go_enter Tryd.func35, Tryd.ntmps35
  go_wp2_with (first | (go_at_call 46; refine (idset_merge _ _ taker_or S1 S2 a1 a2 c1 c2 l1 l2 _ h1 h2 hz1 hz2).mono ?_; rintro e w1 ⟨v, rfl, ho, hb⟩) | fail)
  go_ret
  rw [mrg, List.filter_eq_self.2 (by simp)] at ho
  exact ⟨v, rfl, ho, hb⟩
end Go.Proofs.Sat
