/- From the listed variables of the library and of isa to what the walks ask of them; a world for the witnesses. -/
import Derived.Test.YtiepphjpfjfkmaaGreatDoorCards
import Derived.Test.YtiepphjpfjfkmaaGreatDoorTie
import Derived.Test.YtiepphjpfjfkmaaGreatDoorMsP
import Derived.Test.YtiepphjpfjfkmaaGreatDoorShelf
import Derived.Test.YtiepphjpfjfkmaaGreatDoorLaidW
import Derived.WalkKit
import Derived.ProofKit
import Derived.OpenShut
import Derived.Deep.DeepHandedRow
import Derived.Lib.LaidTab
set_option linter.unusedVariables false
namespace Go.Proofs.YtiepphjpfjfkmaaGreatDoor
open Go.ChangeShapes Go.WideShapes Go.ChangeAt Go.RowKit Go.Proofs.Sat
theorem own : ownKnob Tryz.prog.godebug = none := by kernel_rfl
theorem laidOut : laidOutB Tryz.prog = true := by kernel_rfl
theorem laid_drop {P : Program} {W : World} {x : String × DataW Unit} {r : List (String × DataW Unit)} {ps : List MemPlace} (h : DataW.LaidVars P W (x :: r) ps) : ∃ q, DataW.LaidVars P W r q := by
  obtain ⟨g, t, cs, fuel, p, q, _, _, _, _, h, _⟩ := h
  exact ⟨q, h⟩
theorem laid_head {P : Program} {W : World} {name : String} {d : DataW Unit} {r : List (String × DataW Unit)} {ps : List MemPlace} {g : Nat} {t : TypeId} (n : Nat)
    (hg : P.globalNamed name = some g) (hty : (P.globals[g]?).map (·.type) = some t) (hp : plainType P n t = true) (h : DataW.LaidVars P W ((name, d) :: r) ps) :
    (∀ i u, (flatOf n d)[i]? = some u → W.cell? ⟨g, i, none⟩ = some u) := by
  obtain ⟨g', t', cs, fuel, p, q, hg', ht', hvar, hd, _, _⟩ := h
  obtain rfl := Option.some.inj (hg.symm.trans hg')
  obtain rfl := Option.some.inj (hty.symm.trans ht')
  have := flat_cells fuel n _ _ _ hp hd
  intro i u hu
  refine World.var?_cell hg hvar i |>.trans ?_
  simpa [← this] using hu
theorem laid_tab {P : Program} {W : World} {name : String} {k : IntKind} {zs : List Int} {r : List (String × DataW Unit)} {ps : List MemPlace} {g : Nat} {t e : TypeId} {n : Nat}
    (hg : P.globalNamed name = some g) (hty : (P.globals[g]?).map (·.type) = some t) (ht : P.underlying t = some (.array n e)) (he : P.underlying e = some (.int k)) (hce : P.cellsOf e = 1) (hct : P.cellsOf t = n)
    (h : DataW.LaidVars P W ((name, Lib.tabData k zs) :: r) ps) : Lib.TabIs P W name k zs := by
  obtain ⟨g', t', cs, fuel, p, q, hg', ht', hvar, hd, _, _⟩ := h
  obtain rfl := Option.some.inj (hg.symm.trans hg')
  obtain rfl := Option.some.inj (hty.symm.trans ht')
  unfold Lib.TabIs
  rw [hvar, ← Lib.cells_of_tab ht he hce hct hd]
theorem laid_err {P : Program} {W : World} {name nm : String} {d : DataW Unit} {r : List (String × DataW Unit)} {ps : List MemPlace} {g : Nat} {t : TypeId} {ms : Array (String × TypeId)}
    (hg : P.globalNamed name = some g) (hty : (P.globals[g]?).map (·.type) = some t) (hi : P.underlying t = some (.interface ms))
    (h : DataW.LaidVars P W ((name, .iface nm d) :: r) ps) : ∃ te pe, W.cell? ⟨g, 0, none⟩ = some (.iface te pe) := by
  obtain ⟨g', t', cs, fuel, p, q, hg', ht', hvar, hd, _, _⟩ := h
  obtain rfl := Option.some.inj (hg.symm.trans hg')
  obtain rfl := Option.some.inj (hty.symm.trans ht')
  obtain ⟨f1, u, v, hc, _, _⟩ := iface_of_trod hi hd
  refine ⟨u, v, (World.var?_cell hg hvar 0).trans ?_⟩
  have : cs.toList[0]? = some (.iface u v) := by rw [hc]; rfl
  simpa using this
theorem met_of {W : World} (h : laidMetH Tryz.prog [("math/bits.deBruijn32tab", Rows.laid_math_bits_deBruijn32tab), ("math/bits.deBruijn64tab", Rows.laid_math_bits_deBruijn64tab), ("internal/strconv.uint64pow10", Rows.laid_internal_strconv_uint64pow10), ("unicode/utf8.acceptRanges", Rows.laid_unicode_utf8_acceptRanges), ("strconv.ErrRange", Rows.laid_strconv_ErrRange), ("strconv.ErrSyntax", Rows.laid_strconv_ErrSyntax), ("saturate/isa.operations", Rows.laid_saturate_isa_operations), ("unicode/utf8.first", Rows.laid_unicode_utf8_first)] W) (hsh : W.ShapedOpen Tryz.prog) : MsT W := by
  obtain ⟨ps, h1, _⟩ : laidMet Tryz.prog [("math/bits.deBruijn32tab", Rows.laid_math_bits_deBruijn32tab), ("math/bits.deBruijn64tab", Rows.laid_math_bits_deBruijn64tab), ("internal/strconv.uint64pow10", Rows.laid_internal_strconv_uint64pow10), ("unicode/utf8.acceptRanges", Rows.laid_unicode_utf8_acceptRanges), ("strconv.ErrRange", Rows.laid_strconv_ErrRange), ("strconv.ErrSyntax", Rows.laid_strconv_ErrSyntax), ("saturate/isa.operations", Rows.laid_saturate_isa_operations), ("unicode/utf8.first", Rows.laid_unicode_utf8_first)] W := h
  obtain ⟨_, h2⟩ := laid_drop h1
  obtain ⟨_, h3⟩ := laid_drop h2
  obtain ⟨_, h4⟩ := laid_drop h3
  obtain ⟨_, h5⟩ := laid_drop h4
  obtain ⟨_, h6⟩ := laid_drop h5
  obtain ⟨_, h7⟩ := laid_drop h6
  have hc := laid_head 4 (g := 0) (t := 76) (by kernel_rfl) (by kernel_rfl) (by kernel_rfl) h7
  refine ⟨⟨fun k hk => ?_⟩, ⟨fun k hk => ?_⟩, laid_tab (g := 4) (t := 143) (by kernel_rfl) (by kernel_rfl) Tryz.underlying143 Tryz.underlying46 (by kernel_rfl) (by kernel_rfl) h3, ?_, ?_, ?_⟩
  · rcases (show k = 0 ∨ k = 1 ∨ k = 2 ∨ k = 3 ∨ k = 4 ∨ k = 5 ∨ k = 6 ∨ k = 7 ∨ k = 8 ∨ k = 9 ∨ k = 10 ∨ k = 11 ∨ k = 12 ∨ k = 13 ∨ k = 14 ∨ k = 15 ∨ k = 16 ∨ k = 17 ∨ k = 18 ∨ k = 19 by omega) with rfl | rfl | rfl | rfl | rfl | rfl | rfl | rfl | rfl | rfl | rfl | rfl | rfl | rfl | rfl | rfl | rfl | rfl | rfl | rfl
    all_goals exact hc _ _ rfl
  · rcases (show k = 0 ∨ k = 1 ∨ k = 2 ∨ k = 3 ∨ k = 4 ∨ k = 5 ∨ k = 6 ∨ k = 7 ∨ k = 8 ∨ k = 9 ∨ k = 10 ∨ k = 11 ∨ k = 12 ∨ k = 13 ∨ k = 14 ∨ k = 15 ∨ k = 16 ∨ k = 17 ∨ k = 18 ∨ k = 19 by omega) with rfl | rfl | rfl | rfl | rfl | rfl | rfl | rfl | rfl | rfl | rfl | rfl | rfl | rfl | rfl | rfl | rfl | rfl | rfl | rfl
    all_goals exact hc _ _ rfl
  · have hc := laid_head 4 (g := 8) (t := 155) (by kernel_rfl) (by kernel_rfl) (by kernel_rfl) h2
    exact hc _ _ rfl
  · obtain ⟨te, pe, hc⟩ := laid_err (g := 6) (t := 66) (by kernel_rfl) (by kernel_rfl) Tryz.underlying66 h5
    exact ⟨_, hc, .inr ⟨te, pe, rfl⟩⟩
  · exact Tryz.laysM219.s1_3 W hsh
/-- The cells of a listed variable put into its block. -/
noncomputable def putCells (cs : List Value) : Obj → Obj
  | .cells _ t frozen => .cells cs.toArray t frozen
  | o => o
/-- A world for a witness: the settled one, the variables holding what their initialisers lay. -/
noncomputable def laidWorld (os : Os) : World :=
  let w := World.holding Tryz.prog os ⟨#[], #[], []⟩
  { w with heap := (((((((((w.heap.modify 7 (putCells (flatOf 4 (Rows.laid_math_bits_deBruijn32tab (H := Unit))))).modify 8 (putCells (flatOf 4 (Rows.laid_math_bits_deBruijn64tab (H := Unit))))).modify 4 (putCells (flatOf 4 (Rows.laid_internal_strconv_uint64pow10 (H := Unit))))).modify 3 (putCells (flatOf 4 (Rows.laid_unicode_utf8_acceptRanges (H := Unit))))).modify 0 (putCells (flatOf 4 (Rows.laid_saturate_isa_operations (H := Unit))))).modify 2 (putCells (flatOf 4 Rows.laid_unicode_utf8_first))).modify 6 (putCells [.iface 151 (.pointer (some ⟨w.heap.size, 0, none⟩))])).modify 5 (putCells [.iface 151 (.pointer (some ⟨w.heap.size + 1, 0, none⟩))])).push (.cells #[.string ⟨#[118, 97, 108, 117, 101, 32, 111, 117, 116, 32, 111, 102, 32, 114, 97, 110, 103, 101]⟩] 153 (0, 0))).push (.cells #[.string ⟨#[105, 110, 118, 97, 108, 105, 100, 32, 115, 121, 110, 116, 97, 120]⟩] 153 (0, 0)) }
end Go.Proofs.YtiepphjpfjfkmaaGreatDoor
