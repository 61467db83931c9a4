/- The example of the chapter as data: what the functions answer at it. -/
import Derived.Test.YtgjdpjefoaohkaaDoorPrH
import Derived.Test.YtgjdpjefoaohkaaDoorPrE0
set_option linter.unusedVariables false
set_option linter.unusedSimpArgs false
namespace Go.Proofs.Sat
open Go Go.RowKit
def tm0 : Tm := .mk 0 0 0 ⟨#[]⟩ []
def tmX : Tm := .mk 1 8 0 ⟨#[120]⟩ []
def exA : St := ⟨1, [], 0, [], tm0, tm0⟩
def exB : St := ⟨1, [], 0, [], tmX, tm0⟩
def exC : St := ⟨2, [0], 0, [], tm0, tm0⟩
def exD : St := ⟨2, [1], 0, [], tm0, tm0⟩
def exP : List St := [exA, exB, exC]
def exQ : List St := [exA, exD]
theorem exP_chk : chk exP = (0, 0) := by rfl
theorem exQ_chk : chk exQ = (1, 14) := by rfl
theorem exN_chk : chk [] = (0, 8) := by rfl
theorem exP_needed : needed exP = [0, 2] := by rfl
theorem exP_trim : trimL exP = [exA, exC] := by rfl
theorem exP_depth : depthOf exP = 2 := by rfl
/-- A row out of a block that is known whole. -/
theorem rd_block {α : Type} {d : Kd α} {S : Nat → Prop} {w : World} {g : Nat} {t : TypeId} {fr : Nat × Nat} {cs : List Value} {xs : List α} (hg : w.heap[g]? = some (.cells cs.toArray t fr)) (he : Elems d S w cs xs) (hS : S g) (c : Nat) (h1 : xs.length ≤ c) (h2 : c ≤ 9223372036854775807) : Rd d S w (some ⟨g, 0, none⟩) c xs := by
  refine ⟨h1, h2, fun _ => ⟨g, 0, rfl, hS, (Array.getElem?_eq_some_iff.1 hg).1, fun j hj => ?_⟩⟩
  obtain ⟨c', hk, hc⟩ := he.get j hj
  refine ⟨c', hk, fun i u hu => ?_⟩
  have := hc i u hu
  rw [cell_of_row _ _ (0 + j * d.sz + i) _ _ _ hg]
  simpa using this
theorem few0 : Few 60 tm0 := .mk (by simp [tm0, Tm.args]) (by simp [tm0, Tm.args])
theorem fewX : Few 60 tmX := .mk (by simp [tmX, Tm.args]) (by simp [tmX, Tm.args])
/-- A step without Subs. -/
theorem k_st {S : Nat → Prop} {w : World} {x : St} {ra : Option Addr} {rc : Nat} (hr : Rd (Kd.int .i64) S w ra rc x.refs) (hs : x.subs = []) (ha : x.a.args = []) (hb : x.b.args = []) : kSt.K S w (stCells x ⟨ra, rc, none, 0, none, 0, none, 0⟩) x :=
  ⟨⟨ra, rc, none, 0, none, 0, none, 0⟩, rfl, hr, by rw [hs]; exact Rd.nil _ _ _ _ _ (by simp), by rw [ha]; exact Rd.nil _ _ _ _ _ (by simp), by rw [hb]; exact Rd.nil _ _ _ _ _ (by simp)⟩
end Go.Proofs.Sat
