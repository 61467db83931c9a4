/- The walk of the example of the chapter. -/
import Derived.Test.YtgjdpjefoaohkaaDoorPrI
import Derived.Test.YtgjdpjefoaohkaaDoorPrE
import Derived.Test.YtgjdpjefoaohkaaDoorPrJ0
set_option linter.unusedVariables false
set_option linter.unusedSimpArgs false
namespace Go.Proofs.Sat
open Go Go.RowKit
def obOne (x : Int) : Obj := .cells #[.int .i64 x] 3
theorem one_rd (W : World) (x : Int) (ob : Obj) : Rd (Kd.int .i64) (fun _ => True) ((W.alloc (.cells #[.int .i64 x] 3)).alloc ob) (some ⟨W.heap.size, 0, none⟩) 1 [x] :=
  rd_block (cs := [.int .i64 x]) (block_alloc (heap_alloc_new W _) _) (Elems.cons (c := [.int .i64 x]) rfl .nil) trivial 1 (by simp) (by simp)
theorem exP_rd (W : World) : Rd kSt (fun _ => True) ((W.alloc (.cells #[.int .i64 0] 3)).alloc (.cells #[.int .i64 1, .slice none 0 0, .int .i64 0, .slice none 0 0, .int .i64 0, .int .i64 0, .int .u64 0, .string ⟨#[]⟩, .slice none 0 0, .int .i64 0, .int .i64 0, .int .u64 0, .string ⟨#[]⟩, .slice none 0 0, .int .i64 1, .slice none 0 0, .int .i64 0, .slice none 0 0, .int .i64 1, .int .i64 8, .int .u64 0, .string ⟨#[120]⟩, .slice none 0 0, .int .i64 0, .int .i64 0, .int .u64 0, .string ⟨#[]⟩, .slice none 0 0, .int .i64 2, .slice (some ⟨W.heap.size, 0, none⟩) 1 1, .int .i64 0, .slice none 0 0, .int .i64 0, .int .i64 0, .int .u64 0, .string ⟨#[]⟩, .slice none 0 0, .int .i64 0, .int .i64 0, .int .u64 0, .string ⟨#[]⟩, .slice none 0 0] 36)) (some ⟨W.heap.size + 1, 0, none⟩) 3 exP :=
  rd_block (cs := stCells exA ⟨none, 0, none, 0, none, 0, none, 0⟩ ++ (stCells exB ⟨none, 0, none, 0, none, 0, none, 0⟩ ++ (stCells exC ⟨some ⟨W.heap.size, 0, none⟩, 1, none, 0, none, 0, none, 0⟩ ++ []))) (block_at1 W _ _)
    (.cons (k_st (x := exA) (Rd.nil _ _ _ _ _ (by simp)) rfl rfl rfl) (.cons (k_st (x := exB) (Rd.nil _ _ _ _ _ (by simp)) rfl rfl rfl) (.cons (k_st (x := exC) (one_rd W 0 _) rfl rfl rfl) .nil))) trivial 3 (by simp [exP]) (by simp)
theorem exQ_rd (W : World) : Rd kSt (fun _ => True) ((W.alloc (.cells #[.int .i64 1] 3)).alloc (.cells #[.int .i64 1, .slice none 0 0, .int .i64 0, .slice none 0 0, .int .i64 0, .int .i64 0, .int .u64 0, .string ⟨#[]⟩, .slice none 0 0, .int .i64 0, .int .i64 0, .int .u64 0, .string ⟨#[]⟩, .slice none 0 0, .int .i64 2, .slice (some ⟨W.heap.size, 0, none⟩) 1 1, .int .i64 0, .slice none 0 0, .int .i64 0, .int .i64 0, .int .u64 0, .string ⟨#[]⟩, .slice none 0 0, .int .i64 0, .int .i64 0, .int .u64 0, .string ⟨#[]⟩, .slice none 0 0] 36)) (some ⟨W.heap.size + 1, 0, none⟩) 2 exQ :=
  rd_block (cs := stCells exA ⟨none, 0, none, 0, none, 0, none, 0⟩ ++ (stCells exD ⟨some ⟨W.heap.size, 0, none⟩, 1, none, 0, none, 0, none, 0⟩ ++ [])) (block_at1 W _ _)
    (.cons (k_st (x := exA) (Rd.nil _ _ _ _ _ (by simp)) rfl rfl rfl) (.cons (k_st (x := exD) (one_rd W 1 _) rfl rfl rfl) .nil)) trivial 2 (by simp [exQ]) (by simp)
theorem lite0 {x : St} (ha : Few 60 x.a) (hb : Few 60 x.b) (hs : x.subs = []) (hr : x.refs.length ≤ 3) : Lite x := ⟨ha, hb, by rw [hs]; simp, by rw [hs]; simp, by omega⟩
theorem exP_lite : ∀ x ∈ exP, Lite x := by
  intro x hx
  simp only [exP, List.mem_cons, List.not_mem_nil, or_false] at hx
  rcases hx with rfl | rfl | rfl
  · exact lite0 few0 few0 rfl (by simp [exA])
  · exact lite0 fewX few0 rfl (by simp [exB])
  · exact lite0 few0 few0 rfl (by simp [exC])
set_option maxRecDepth 20000 in
set_option maxHeartbeats 4000000 in
theorem lives_true (w : World) (hK : Kinds w) :
    Calls Tryd.prog 12 #[] w fun e w' => e = .returned (.bool true) ∧ Below w.heap.size w w' := by
  go_enter Tryd.func12, Tryd.ntmps12
  go_wp2_with (first
    | (go_at_call 31; refine (term_Var ⟨#[120]⟩ w).mono ?_; rintro e w1 ⟨rfl, b1⟩)
    | fail)
  have r1 := Lib.hid (exP_rd w1)
  have B1 := Lib.hid (below_alloc (below_alloc b1 (.cells #[.int .i64 0] 3)) (.cells #[.int .i64 1, .slice none 0 0, .int .i64 0, .slice none 0 0, .int .i64 0, .int .i64 0, .int .u64 0, .string ⟨#[]⟩, .slice none 0 0, .int .i64 0, .int .i64 0, .int .u64 0, .string ⟨#[]⟩, .slice none 0 0, .int .i64 1, .slice none 0 0, .int .i64 0, .slice none 0 0, .int .i64 1, .int .i64 8, .int .u64 0, .string ⟨#[120]⟩, .slice none 0 0, .int .i64 0, .int .i64 0, .int .u64 0, .string ⟨#[]⟩, .slice none 0 0, .int .i64 2, .slice (some ⟨w1.heap.size, 0, none⟩) 1 1, .int .i64 0, .slice none 0 0, .int .i64 0, .int .i64 0, .int .u64 0, .string ⟨#[]⟩, .slice none 0 0, .int .i64 0, .int .i64 0, .int .u64 0, .string ⟨#[]⟩, .slice none 0 0] 36))
  have C1 := proof_Check _ _ 3 exP _ (exP_rd w1) (hK.below B1.out)
  rw [exP_chk] at C1
  refine C1.mono ?_
  rintro e w2 ⟨rfl, b2⟩
  clear C1
  have r2 := Lib.hid (r1.out.frame (Same.below b2))
  have B2 := Lib.hid (below_both B1.out b2)
  clear r1 B1 b2 b1
  go_wp2_with fail
  have B2' := Lib.hid (below_alloc (below_alloc B2.out (.cells #[.int .i64 1] 3)) (.cells #[.int .i64 1, .slice none 0 0, .int .i64 0, .slice none 0 0, .int .i64 0, .int .i64 0, .int .u64 0, .string ⟨#[]⟩, .slice none 0 0, .int .i64 0, .int .i64 0, .int .u64 0, .string ⟨#[]⟩, .slice none 0 0, .int .i64 2, .slice (some ⟨w2.heap.size, 0, none⟩) 1 1, .int .i64 0, .slice none 0 0, .int .i64 0, .int .i64 0, .int .u64 0, .string ⟨#[]⟩, .slice none 0 0, .int .i64 0, .int .i64 0, .int .u64 0, .string ⟨#[]⟩, .slice none 0 0] 36))
  have r2' := Lib.hid (r2.out.frame ((Same.alloc _ w2 (.cells #[.int .i64 1] 3)).trans (Same.alloc _ _ (.cells #[.int .i64 1, .slice none 0 0, .int .i64 0, .slice none 0 0, .int .i64 0, .int .i64 0, .int .u64 0, .string ⟨#[]⟩, .slice none 0 0, .int .i64 0, .int .i64 0, .int .u64 0, .string ⟨#[]⟩, .slice none 0 0, .int .i64 2, .slice (some ⟨w2.heap.size, 0, none⟩) 1 1, .int .i64 0, .slice none 0 0, .int .i64 0, .int .i64 0, .int .u64 0, .string ⟨#[]⟩, .slice none 0 0, .int .i64 0, .int .i64 0, .int .u64 0, .string ⟨#[]⟩, .slice none 0 0] 36))))
  have C1 := proof_Check _ _ 2 exQ _ (exQ_rd w2) (hK.below B2'.out)
  rw [exQ_chk] at C1
  refine C1.mono ?_
  rintro e w3 ⟨rfl, b3⟩
  clear C1
  have r3 := Lib.hid (r2'.out.frame (Same.below b3))
  have B3 := Lib.hid (below_both B2'.out b3)
  clear r2 B2 b3 r2' B2'
  go_wp2_with fail
  have C1 := proof_Check (fun _ => True) none 0 [] w3 (Rd.nil _ _ _ _ _ (by simp)) (hK.below B3.out)
  rw [exN_chk] at C1
  refine C1.mono ?_
  rintro e w4 ⟨rfl, b4⟩
  clear C1
  have r4 := Lib.hid (r3.out.frame (Same.below b4))
  have B4 := Lib.hid (below_both B3.out b4)
  clear r3 B3 b4
  go_wp2_with fail
  have C1 := proof_Trim _ _ 3 exP w4 r4.out (hK.below B4.out) exP_lite (by simp [exP])
  rw [exP_trim] at C1
  refine C1.mono ?_
  rintro e w5 ⟨v5, rfl, o5, b5⟩
  clear C1
  obtain ⟨A5, c5, rfl, q5⟩ := o5.rd
  have r5 := Lib.hid (r4.out.frame (Same.below b5))
  have B5 := Lib.hid (below_both B4.out b5)
  obtain ⟨g5, f5, p0, rfl, hg5, h0, I0⟩ := st_elem q5 (j := 0) (by simp)
  obtain ⟨g5', f5', p1, e5, _, h1, I1⟩ := st_elem q5 (j := 1) (by simp)
  cases e5
  have hq5 := Lib.hid q5
  clear r4 B4 b5 o5 q5
  go_wp2_with fail
  have C1 := proof_Needed _ _ 3 exP w5 r5.out (hK.below B5.out)
  rw [exP_needed] at C1
  refine C1.mono ?_
  rintro e w6 ⟨v6, rfl, o6, b6, -⟩
  clear C1
  obtain ⟨A6, c6, rfl, q6⟩ := o6.rd
  have r6 := Lib.hid (r5.out.frame (Same.below b6))
  have B6 := Lib.hid (below_both B5.out b6)
  have q6' := Lib.hid q6
  have B56 := Lib.hid b6
  clear r5 B5 b6 o6 q6
  go_wp2_with fail
  refine (ref03_Same _ (fun _ => True) A6 _ c6 2 [0, 2] [0, 2] _ (q6'.out.frame (Same.alloc _ _ _)) (rd_block (cs := [.int .i64 0, .int .i64 2]) (heap_alloc_new w6 _) (elems_vals [0, 2]) trivial 2 (by simp) (by simp))).mono ?_
  rintro e w7 ⟨rfl, d7⟩
  have b67 : Below w6.heap.size w6 w7 := (below_alloc (Below.refl _ _) _).trans (d7.below _)
  have r7 := Lib.hid (r6.out.frame (Same.below b67))
  have B7 := Lib.hid (below_both B6.out b67)
  have B57 := Lib.hid (below_both B56.out b67)
  have k0 : w7.cell? ⟨g5, f5, none⟩ = some (.int .i64 1) := by have := (I0.frame (B57.out.block g5 hg5)).c0; simpa [exA] using this
  have k1 : w7.cell? ⟨g5, f5 + 14, none⟩ = some (.int .i64 2) := by have := (I1.frame (B57.out.block g5 hg5)).c0; simpa [exC] using this
  have k2 : w7.cell? ⟨g5, f5 + 14 + 1, none⟩ = some (.slice p1.ra 1 p1.rc) := by have := (I1.frame (B57.out.block g5 hg5)).c1; simpa [exC] using this
  have q7 : Hid (Rd (Kd.int .i64) _ w7 p1.ra p1.rc [0]) := h1.refs.frame (Same.below B57.out)
  clear d7 b67 r6 B6 B56 q6' I0 I1 h0 h1
  have t7 : decide (([0, 2] : List Int) = [0, 2]) = true := rfl
  go_wp2_with fail
  refine (ref03_Same _ (fun _ => True) p1.ra _ p1.rc 1 [0] [0] _ (q7.out.frame (Same.alloc _ _ _)) (rd_block (cs := [.int .i64 0]) (heap_alloc_new w7 _) (elems_vals [0]) trivial 1 (by simp) (by simp))).mono ?_
  rintro e w8 ⟨rfl, d8⟩
  have b78 : Below w7.heap.size w7 w8 := (below_alloc (Below.refl _ _) _).trans (d8.below _)
  have r8 := Lib.hid (r7.out.frame (Same.below b78))
  have B8 := Lib.hid (below_both B7.out b78)
  clear d8 b78 r7 B7
  have t8 : decide (([0] : List Int) = [0]) = true := rfl
  go_wp2_with fail
  have C1 := proof_Depth _ _ 3 exP w8 r8.out (hK.below B8.out)
  rw [exP_depth] at C1
  refine C1.mono ?_
  rintro e w9 ⟨rfl, b9⟩
  clear C1
  have B9 := Lib.hid (below_both B8.out b9)
  clear B8 b9 r8
  go_wp2_with fail
  have C1 := proof_Kind 9 w9 (hK.below B9.out)
  rw [show kindName 9 = ⟨#[109, 101, 101, 116]⟩ from rfl] at C1
  refine C1.mono ?_
  rintro e w10 ⟨rfl, d10⟩
  have B10 := B9.out.trans (d10.below _)
  clear C1
  go_wp2_with fail
  go_ret
  exact ⟨rfl, B10⟩
end Go.Proofs.Sat
