/- From readings to kinds (RowW, OpenW), without any of the program's own types. -/
import Derived.Test.YtdncgkmbglmifaaDoorOps2
import Derived.WalkKit
import Derived.ProofKit
import Derived.OpenShut
import Derived.ShutString
import Derived.ChangeOld
import Derived.Below
import Derived.SizedLaws
import Derived.Deep.Slices
import Derived.Test.YtdncgkmbglmifaaDoorProg
import Derived.KernelRfl
import Derived.WideShapes
set_option linter.unusedVariables false
set_option linter.unusedSimpArgs false
/- From a row's readings to the walks' words. No program stands in it. -/
namespace Go.Proofs.Sat
open Go Go.RowKit
theorem addr_of_cell {w : World} {x : Addr} {v : Value} (h : w.cell? x = some v) : ∃ b o, x = ⟨b, o, none⟩ ∧ b < w.heap.size := by
  have hb := World.block_lt_of_cell? w x h
  obtain ⟨b, o, sp⟩ := x
  cases sp with
  | none => exact ⟨b, o, rfl, hb⟩
  | some s =>
    exfalso
    unfold World.cell? at h
    split at h
    · simp at h
    · cases h
/-- What a row tells of a slice of whole numbers. -/
def IsRow (k : IntKind) (w : World) (a : Option Addr) (len cap : Nat) (zs : List Int) : Prop :=
  (a = none ∧ len = 0 ∧ cap = 0 ∧ zs = []) ∨
  ∃ x, a = some x ∧ len ≤ cap ∧ cap ≤ maxLen ∧ zs.length = cap ∧ (∀ i, i < zs.length → w.cell? (x.add i) = some (.int k (zs.getD i 0))) ∧ ∀ n ∈ zs, (Lit.int k n).wf = true
theorem IsRow.rd {k : IntKind} {w : World} {a : Option Addr} {len cap : Nat} {zs : List Int} (h : IsRow k w a len cap zs) : ∃ l, l.length = len ∧ Rd (Kd.int k) (fun _ => True) w a cap l ∧ ∀ n ∈ l, (Lit.int k n).wf = true := by
  rcases h with ⟨rfl, rfl, rfl, rfl⟩ | ⟨x, rfl, h1, h2, h3, h4, h5⟩
  · exact ⟨[], rfl, Rd.nil _ _ _ _ _ (by omega), by simp⟩
  · refine ⟨zs.take len, by simp; omega, ?_, fun n hn => h5 n (List.mem_of_mem_take hn)⟩
    rcases Nat.eq_zero_or_pos len with h0 | hp
    · subst h0
      exact Rd.nil _ _ _ _ _ (by simpa [maxLen] using h2)
    · obtain ⟨b, o, rfl, hb⟩ := addr_of_cell (x := x) (h4 0 (by omega))
      refine Rd.of_vals 0 (by simp; omega) (by simpa [maxLen] using h2) (fun _ => ⟨trivial, hb⟩) fun j hj => ?_
      have hj' : j < len := by rw [List.length_take] at hj; omega
      have := h4 j (by omega)
      rw [show (⟨b, o, none⟩ : Addr).add j = ⟨b, o + j, none⟩ from by unfold Addr.add; split <;> simp_all] at this
      rw [this]
      simp [List.getD_eq_getElem?_getD, List.getElem?_take_of_lt hj']
end Go.Proofs.Sat
/- From a reading of data to the walks' words, type by type. No program stands in it. -/
namespace Go.Proofs.Sat
open Go Go.RowKit
/-- What reads as a datum of type t is of kind d. -/
def Opens {α : Type} (P : Program) (d : Kd α) (t : TypeId) (wf : α → Prop) : Prop :=
  P.cellsOf t = d.sz ∧ ∀ (H : Type) (enc : TypeId × Value → H) (w : World) (fuel : Nat) (cs : List Value) (x : DataW H × List MemPlace), DataW.trod enc P w 0 (fun _ => true) true fuel t cs = some x → ∃ y, d.K (fun _ => True) w cs y ∧ wf y
theorem opens_int {P : Program} {t : TypeId} {k : IntKind} (ht : P.underlying t = some (.int k)) (hc : P.cellsOf t = 1) : Opens P (Kd.int k) t fun n => (Lit.int k n).wf = true :=
  ⟨hc, fun H enc w fuel cs x h => by
    obtain ⟨n, rfl, _, hw⟩ := DataW.trod_int ht h
    exact ⟨n, rfl, hw⟩⟩
theorem opens_bool {P : Program} {t : TypeId} (ht : P.underlying t = some .bool) (hc : P.cellsOf t = 1) : Opens P Kd.bool t fun _ => True :=
  ⟨hc, fun H enc w fuel cs x h => by
    obtain ⟨n, rfl, _⟩ := DataW.trod_bool ht h
    exact ⟨n, rfl, trivial⟩⟩
theorem opens_string {P : Program} {t : TypeId} (ht : P.underlying t = some .string) (hc : P.cellsOf t = 1) : Opens P Kd.str t fun s => s.size ≤ maxLen :=
  ⟨hc, fun H enc w fuel cs x h => by
    obtain ⟨n, rfl, _, hw⟩ := DataW.trod_string ht h
    exact ⟨n, rfl, hw⟩⟩
theorem exists_list {α : Type} {p : Nat → α → Prop} : ∀ n, (∀ i, i < n → ∃ y, p i y) → ∃ l : List α, l.length = n ∧ ∀ i (h : i < l.length), p i l[i]
  | 0, _ => ⟨[], rfl, fun i h => by simp at h⟩
  | n + 1, h => by
    obtain ⟨l, hl, hp⟩ := exists_list n fun i hi => h i (by omega)
    obtain ⟨y, hy⟩ := h n (by omega)
    refine ⟨l ++ [y], by simp [hl], fun i hi => ?_⟩
    rcases Nat.lt_or_ge i l.length with h1 | h1
    · rw [List.getElem_append_left h1]; exact hp i h1
    · simp at hi
      subst hl
      obtain rfl : i = l.length := by omega
      simpa using hy
theorem opens_slice {α : Type} {P : Program} {d : Kd α} {t e : TypeId} {wf : α → Prop} (ht : P.underlying t = some (.slice e)) (hc : P.cellsOf t = 1) (hs : 0 < d.sz) (h : Opens P d e wf) : Opens P (Kd.slice d) t fun l => ∀ y ∈ l, wf y := by
  refine ⟨hc, fun H enc w fuel cs x hx => ?_⟩
  rcases Go.Deep.open_slice ht hx with ⟨rfl, _⟩ | ⟨a, len, cap, m, n, D, Pl, rfl, _, hl, hm, hmm, _, hel⟩
  · exact ⟨[], ⟨none, 0, rfl, Rd.nil _ _ _ _ _ (by omega)⟩, by simp⟩
  · simp at hmm
    subst hmm
    rw [h.1] at hel
    have hall : ∀ i, i < len → ∃ y, (∃ cs', w.cells? 0 (a.add (i * d.sz)) d.sz = some cs' ∧ d.K (fun _ => True) w cs' y) ∧ wf y := fun i hi => by
      obtain ⟨cs', h1, h2⟩ := hel i (by omega)
      obtain ⟨y, h3, h4⟩ := h.2 H enc w n cs' _ h2
      exact ⟨y, ⟨cs', h1, h3⟩, h4⟩
    obtain ⟨l, rfl, hp⟩ := exists_list len hall
    refine ⟨l, ⟨some a, m, rfl, hl, by simpa [maxLen] using hm, fun hpos => ?_⟩, fun y hy => ?_⟩
    · obtain ⟨⟨cs0, h0, _⟩, _⟩ := hp 0 hpos
      obtain ⟨_, hl0, hc0⟩ := World.cells?_some h0
      have hz : a.add (0 * d.sz) = a := by simp [Addr.add]
      have h00 := hc0 0 hs
      rw [hz, show a.add 0 = a from by simp [Addr.add], List.getElem?_eq_getElem (by omega)] at h00
      obtain ⟨b, o, rfl, hb⟩ := addr_of_cell h00
      refine ⟨b, o, rfl, trivial, hb, fun j hj => ?_⟩
      obtain ⟨⟨cs', h1, h2⟩, _⟩ := hp j hj
      obtain ⟨_, hl1, hc1⟩ := World.cells?_some h1
      refine ⟨cs', h2, fun i u hu => ?_⟩
      have hi : i < d.sz := by rw [← hl1]; exact (List.getElem?_eq_some_iff.1 hu).1
      have := hc1 i hi
      rw [add_plain, add_plain, hu] at this
      exact this
    · obtain ⟨i, hi, rfl⟩ := List.mem_iff_getElem.1 hy
      exact (hp i hi).2
theorem pair_open {α β : Type} {a : Kd α} {b : Kd β} {S : Nat → Prop} {w : World} {cs : List Value} {n : Nat} {x : α} {y : β} (h1 : a.K S w (cs.take n) x) (h2 : b.K S w (cs.drop n) y) : (Kd.pair a b).K S w cs (x, y) :=
  ⟨cs.take n, cs.drop n, (List.take_append_drop n cs).symm, h1, h2⟩
end Go.Proofs.Sat
/- OpenCd, OpenAr, OpenIm, one after the other. -/
/- From a reading of programs of the machine to the walks' words. -/
namespace Go.Proofs.Sat
open Go Go.RowKit
theorem i64_wf {n : Int} (h : (Lit.int .i64 n).wf = true) : -9223372036854775808 ≤ n ∧ n ≤ 9223372036854775807 := by
  simp [Lit.wf, IntKind.min, IntKind.max, IntKind.signed, IntKind.bits] at h
  omega
theorem u64_wf {n : Int} (h : (Lit.int .u64 n).wf = true) : 0 ≤ n ∧ n < 18446744073709551616 := by
  simp [Lit.wf, IntKind.min, IntKind.max, IntKind.signed, IntKind.bits] at h
  omega
end Go.Proofs.Sat
