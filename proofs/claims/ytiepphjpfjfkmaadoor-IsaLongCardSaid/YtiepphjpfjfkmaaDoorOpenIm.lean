/- RowW, OpenW, OpenIm, one after the other. -/
import Derived.Test.YtiepphjpfjfkmaaDoorOps2
import Derived.WalkKit
import Derived.ProofKit
import Derived.OpenShut
import Derived.ShutString
import Derived.ChangeOld
import Derived.Below
import Derived.SizedLaws
import Derived.Deep.Slices
import Derived.Test.YtiepphjpfjfkmaaDoorInsW
import Derived.Test.YtiepphjpfjfkmaaDoorProg
import Derived.KernelRfl
import Derived.WideShapes
set_option linter.unusedVariables false
set_option linter.unusedSimpArgs false
/- From a row's readings to the walks' words. No program stands in it. -/
namespace Go.Proofs.Sat
open Go Go.RowKit
theorem addr_of_cell {w : World} {x : Addr} {v : Value} (h : w.cell? x = some v) : ∃ b o, x = ⟨b, o, none⟩ ∧ b < w.heap.size := by
  have hb := World.block_lt_of_cell? w x h
  obtain ⟨b, o, sp⟩ := x
  cases sp with
  | none => exact ⟨b, o, rfl, hb⟩
  | some s =>
    exfalso
    unfold World.cell? at h
    split at h
    · simp at h
    · cases h
/-- What a row tells of a slice of whole numbers. -/
def IsRow (k : IntKind) (w : World) (a : Option Addr) (len cap : Nat) (zs : List Int) : Prop :=
  (a = none ∧ len = 0 ∧ cap = 0 ∧ zs = []) ∨
  ∃ x, a = some x ∧ len ≤ cap ∧ cap ≤ maxLen ∧ zs.length = cap ∧ (∀ i, i < zs.length → w.cell? (x.add i) = some (.int k (zs.getD i 0))) ∧ ∀ n ∈ zs, (Lit.int k n).wf = true
theorem IsRow.rd {k : IntKind} {w : World} {a : Option Addr} {len cap : Nat} {zs : List Int} (h : IsRow k w a len cap zs) : ∃ l, l.length = len ∧ Rd (Kd.int k) (fun _ => True) w a cap l ∧ ∀ n ∈ l, (Lit.int k n).wf = true := by
  rcases h with ⟨rfl, rfl, rfl, rfl⟩ | ⟨x, rfl, h1, h2, h3, h4, h5⟩
  · exact ⟨[], rfl, Rd.nil _ _ _ _ _ (by omega), by simp⟩
  · refine ⟨zs.take len, by simp; omega, ?_, fun n hn => h5 n (List.mem_of_mem_take hn)⟩
    rcases Nat.eq_zero_or_pos len with h0 | hp
    · subst h0
      exact Rd.nil _ _ _ _ _ (by simpa [maxLen] using h2)
    · obtain ⟨b, o, rfl, hb⟩ := addr_of_cell (x := x) (h4 0 (by omega))
      refine Rd.of_vals 0 (by simp; omega) (by simpa [maxLen] using h2) (fun _ => ⟨trivial, hb⟩) fun j hj => ?_
      have hj' : j < len := by rw [List.length_take] at hj; omega
      have := h4 j (by omega)
      rw [show (⟨b, o, none⟩ : Addr).add j = ⟨b, o + j, none⟩ from by unfold Addr.add; split <;> simp_all] at this
      rw [this]
      simp [List.getD_eq_getElem?_getD, List.getElem?_take_of_lt hj']
end Go.Proofs.Sat
/- From a reading of data to the walks' words, type by type. No program stands in it. -/
namespace Go.Proofs.Sat
open Go Go.RowKit
/-- What reads as a datum of type t is of kind d. -/
def Opens {α : Type} (P : Program) (d : Kd α) (t : TypeId) (wf : α → Prop) : Prop :=
  P.cellsOf t = d.sz ∧ ∀ (H : Type) (enc : TypeId × Value → H) (w : World) (fuel : Nat) (cs : List Value) (x : DataW H × List MemPlace), DataW.trod enc P w 0 (fun _ => true) true fuel t cs = some x → ∃ y, d.K (fun _ => True) w cs y ∧ wf y
theorem opens_int {P : Program} {t : TypeId} {k : IntKind} (ht : P.underlying t = some (.int k)) (hc : P.cellsOf t = 1) : Opens P (Kd.int k) t fun n => (Lit.int k n).wf = true :=
  ⟨hc, fun H enc w fuel cs x h => by
    obtain ⟨n, rfl, _, hw⟩ := DataW.trod_int ht h
    exact ⟨n, rfl, hw⟩⟩
theorem opens_bool {P : Program} {t : TypeId} (ht : P.underlying t = some .bool) (hc : P.cellsOf t = 1) : Opens P Kd.bool t fun _ => True :=
  ⟨hc, fun H enc w fuel cs x h => by
    obtain ⟨n, rfl, _⟩ := DataW.trod_bool ht h
    exact ⟨n, rfl, trivial⟩⟩
theorem opens_string {P : Program} {t : TypeId} (ht : P.underlying t = some .string) (hc : P.cellsOf t = 1) : Opens P Kd.str t fun s => s.size ≤ maxLen :=
  ⟨hc, fun H enc w fuel cs x h => by
    obtain ⟨n, rfl, _, hw⟩ := DataW.trod_string ht h
    exact ⟨n, rfl, hw⟩⟩
theorem exists_list {α : Type} {p : Nat → α → Prop} : ∀ n, (∀ i, i < n → ∃ y, p i y) → ∃ l : List α, l.length = n ∧ ∀ i (h : i < l.length), p i l[i]
  | 0, _ => ⟨[], rfl, fun i h => by simp at h⟩
  | n + 1, h => by
    obtain ⟨l, hl, hp⟩ := exists_list n fun i hi => h i (by omega)
    obtain ⟨y, hy⟩ := h n (by omega)
    refine ⟨l ++ [y], by simp [hl], fun i hi => ?_⟩
    rcases Nat.lt_or_ge i l.length with h1 | h1
    · rw [List.getElem_append_left h1]; exact hp i h1
    · simp at hi
      subst hl
      obtain rfl : i = l.length := by omega
      simpa using hy
theorem opens_slice {α : Type} {P : Program} {d : Kd α} {t e : TypeId} {wf : α → Prop} (ht : P.underlying t = some (.slice e)) (hc : P.cellsOf t = 1) (hs : 0 < d.sz) (h : Opens P d e wf) : Opens P (Kd.slice d) t fun l => ∀ y ∈ l, wf y := by
  refine ⟨hc, fun H enc w fuel cs x hx => ?_⟩
  rcases Go.Deep.open_slice ht hx with ⟨rfl, _⟩ | ⟨a, len, cap, m, n, D, Pl, rfl, _, hl, hm, hmm, _, hel⟩
  · exact ⟨[], ⟨none, 0, rfl, Rd.nil _ _ _ _ _ (by omega)⟩, by simp⟩
  · simp at hmm
    subst hmm
    rw [h.1] at hel
    have hall : ∀ i, i < len → ∃ y, (∃ cs', w.cells? 0 (a.add (i * d.sz)) d.sz = some cs' ∧ d.K (fun _ => True) w cs' y) ∧ wf y := fun i hi => by
      obtain ⟨cs', h1, h2⟩ := hel i (by omega)
      obtain ⟨y, h3, h4⟩ := h.2 H enc w n cs' _ h2
      exact ⟨y, ⟨cs', h1, h3⟩, h4⟩
    obtain ⟨l, rfl, hp⟩ := exists_list len hall
    refine ⟨l, ⟨some a, m, rfl, hl, by simpa [maxLen] using hm, fun hpos => ?_⟩, fun y hy => ?_⟩
    · obtain ⟨⟨cs0, h0, _⟩, _⟩ := hp 0 hpos
      obtain ⟨_, hl0, hc0⟩ := World.cells?_some h0
      have hz : a.add (0 * d.sz) = a := by simp [Addr.add]
      have h00 := hc0 0 hs
      rw [hz, show a.add 0 = a from by simp [Addr.add], List.getElem?_eq_getElem (by omega)] at h00
      obtain ⟨b, o, rfl, hb⟩ := addr_of_cell h00
      refine ⟨b, o, rfl, trivial, hb, fun j hj => ?_⟩
      obtain ⟨⟨cs', h1, h2⟩, _⟩ := hp j hj
      obtain ⟨_, hl1, hc1⟩ := World.cells?_some h1
      refine ⟨cs', h2, fun i u hu => ?_⟩
      have hi : i < d.sz := by rw [← hl1]; exact (List.getElem?_eq_some_iff.1 hu).1
      have := hc1 i hi
      rw [add_plain, add_plain, hu] at this
      exact this
    · obtain ⟨i, hi, rfl⟩ := List.mem_iff_getElem.1 hy
      exact (hp i hi).2
theorem pair_open {α β : Type} {a : Kd α} {b : Kd β} {S : Nat → Prop} {w : World} {cs : List Value} {n : Nat} {x : α} {y : β} (h1 : a.K S w (cs.take n) x) (h2 : b.K S w (cs.drop n) y) : (Kd.pair a b).K S w cs (x, y) :=
  ⟨cs.take n, cs.drop n, (List.take_append_drop n cs).symm, h1, h2⟩
end Go.Proofs.Sat
/- OpenCd, OpenAr, OpenIm, one after the other. -/
/- From a reading of programs of the machine to the walks' words. -/
namespace Go.Proofs.Sat
open Go Go.RowKit
open Go.ChangeMaps (open_string shut_string)
/-- A slice that reads, its elements reading at a lower fuel. -/
theorem slice_at {α : Type} {P : Program} {d : Kd α} {t e : TypeId} (ht : P.underlying t = some (.slice e)) (hd : P.cellsOf e = d.sz) (hs : 0 < d.sz) {H : Type} {enc : TypeId × Value → H} {w : World} {fuel : Nat} {cs : List Value} {x : DataW H × List MemPlace}
    (hx : DataW.trod enc P w 0 (fun _ => true) true fuel t cs = some x) (hel : ∀ n, n < fuel → ∀ cs' y, DataW.trod enc P w 0 (fun _ => true) true n e cs' = some y → ∃ z, d.K (fun _ => True) w cs' z) : ∃ l, (Kd.slice d).K (fun _ => True) w cs l := by
  rcases DataW.trod_slice ht hx with ⟨rfl, _⟩ | ⟨a, len, cap, elems, rest, n, rfl, rfl, _, _, hl, hm, hlen, he, _, _⟩
  · exact ⟨[], none, 0, rfl, Rd.nil _ _ _ _ _ (by omega)⟩
  · have hall : ∀ i, i < len → ∃ y, ∃ cs', w.cells? 0 (a.add (i * d.sz)) d.sz = some cs' ∧ d.K (fun _ => True) w cs' y := fun i hi => by
      have h := he i hi
      rw [hd, List.getElem?_eq_getElem (by omega), Option.bind_eq_some_iff] at h
      obtain ⟨cs', h1, h2⟩ := h
      obtain ⟨z, hz⟩ := hel n (by omega) cs' _ h2
      exact ⟨z, cs', h1, hz⟩
    obtain ⟨l, rfl, hp⟩ := exists_list len hall
    refine ⟨l, some a, cap, rfl, hl, by simpa [maxLen] using hm, fun hpos => ?_⟩
    obtain ⟨cs0, h0, _⟩ := hp 0 hpos
    obtain ⟨_, hl0, hc0⟩ := World.cells?_some h0
    have hz : a.add (0 * d.sz) = a := by simp [Addr.add]
    have h00 := hc0 0 hs
    rw [hz, show a.add 0 = a from by simp [Addr.add], List.getElem?_eq_getElem (by omega)] at h00
    obtain ⟨b, o, rfl, hb⟩ := addr_of_cell h00
    refine ⟨b, o, rfl, trivial, hb, fun j hj => ?_⟩
    obtain ⟨cs', h1, h2⟩ := hp j hj
    obtain ⟨_, hl1, hc1⟩ := World.cells?_some h1
    refine ⟨cs', h2, fun i u hu => ?_⟩
    have hi : i < d.sz := by rw [← hl1]; exact (List.getElem?_eq_some_iff.1 hu).1
    have := hc1 i hi
    rw [add_plain, add_plain, hu] at this
    exact this
section
variable {H : Type} {enc : TypeId × Value → H} {w : World}
theorem one_int {P : Program} {t : TypeId} {k : IntKind} (ht : P.underlying t = some (.int k)) {fuel : Nat} {c : Value} {x : Option (DataW H × List MemPlace)} (h : DataW.trod enc P w 0 (fun _ => true) true fuel t [c] = x) (hx : x.isSome = true) : ∃ n, c = .int k n := by
  obtain ⟨y, rfl⟩ := Option.isSome_iff_exists.1 hx
  obtain ⟨n, e, _, _⟩ := DataW.trod_int ht h
  exact ⟨n, by simpa using e⟩
set_option maxRecDepth 20000 in
theorem trod_ins (fuel : Nat) (cs : List Value) (x : DataW H × List MemPlace) (h : DataW.trod enc Tryd.prog w 0 (fun _ => true) true fuel 25 cs = some x) : ∃ y, kIn.K (fun _ => True) w cs y := by
  obtain ⟨xs, n, rfl, rfl, hl, hlen, hf⟩ := DataW.trod_struct Tryd.underlying25 h
  rw [show (Tryd.prog).cellsOf 25 = 6 from by kernel_rfl] at hl
  have h0 := hf 0 _ rfl
  have h1 := hf 1 _ rfl
  have h2 := hf 2 _ rfl
  have h3 := hf 3 _ rfl
  have h4 := hf 4 _ rfl
  have h5 := hf 5 _ rfl
  have hs : ∀ i, i < 6 → (xs[i]?).isSome = true := fun i hi => by
    have hx : xs.length = 6 := hlen
    simp [hx, hi]
  match cs, hl with
  | [c0, c1, c2, c3, c4, c5], _ =>
    obtain ⟨o, rfl⟩ := one_int Tryd.underlying22 h0 (hs 0 (by omega))
    obtain ⟨d, rfl⟩ := one_int Tryd.underlying3 h1 (hs 1 (by omega))
    obtain ⟨a, rfl⟩ := one_int Tryd.underlying3 h2 (hs 2 (by omega))
    obtain ⟨b, rfl⟩ := one_int Tryd.underlying3 h3 (hs 3 (by omega))
    obtain ⟨c, rfl⟩ := one_int Tryd.underlying3 h4 (hs 4 (by omega))
    obtain ⟨m, rfl⟩ := one_int Tryd.underlying23 h5 (hs 5 (by omega))
    exact ⟨⟨o, d, a, b, c, m⟩, rfl⟩
set_option maxRecDepth 20000 in
/-- A program given by value: its cells. -/
theorem trod_code (fuel : Nat) (cs : List Value) (x : DataW H × List MemPlace) (h : DataW.trod enc Tryd.prog w 0 (fun _ => true) true fuel 36 cs = some x) :
    ∃ (c : Cd) (p : CdAt), cs = [.int .i64 c.width, .int .i64 c.regs, .slice p.ia c.ins.length p.ic, .slice p.oa c.out.length p.oc] ∧ CdRd (fun _ => True) w c p := by
  obtain ⟨xs, n, rfl, rfl, hl, hlen, hf⟩ := DataW.trod_struct Tryd.underlying36 h
  rw [show (Tryd.prog).cellsOf 36 = 4 from by kernel_rfl] at hl
  have h0 := hf 0 _ rfl
  have h1 := hf 1 _ rfl
  have h2 := hf 2 _ rfl
  have h3 := hf 3 _ rfl
  have hs : ∀ i, i < 4 → ∃ y, xs[i]? = some y := fun i hi => by
    have hx : xs.length = 4 := hlen
    exact ⟨xs[i], List.getElem?_eq_getElem (by omega)⟩
  match cs, hl with
  | [c0, c1, c2, c3], _ =>
    obtain ⟨y0, e0⟩ := hs 0 (by omega)
    obtain ⟨y1, e1⟩ := hs 1 (by omega)
    obtain ⟨y2, e2⟩ := hs 2 (by omega)
    obtain ⟨y3, e3⟩ := hs 3 (by omega)
    obtain ⟨wd, rfl⟩ := one_int Tryd.underlying3 h0 (by rw [e0]; rfl)
    obtain ⟨rg, rfl⟩ := one_int Tryd.underlying3 h1 (by rw [e1]; rfl)
    rw [e2] at h2
    rw [e3] at h3
    obtain ⟨is, ia, ic, ei, hi⟩ := slice_at (d := kIn) Tryd.underlying34 (by kernel_rfl) (by decide) h2 (fun m hm cs' y hy => trod_ins m cs' y hy)
    obtain ⟨os, oa, oc, eo, ho⟩ := slice_at (d := Kd.int .i64) Tryd.underlying29 (by kernel_rfl) (by decide) h3 (fun m hm cs' y hy => by
      obtain ⟨n, e, _, _⟩ := DataW.trod_int Tryd.underlying3 hy
      exact ⟨n, e⟩)
    have ei' : [c2] = [.slice ia is.length ic] := ei
    have eo' : [c3] = [.slice oa os.length oc] := eo
    obtain rfl : c2 = .slice ia is.length ic := by simpa using ei'
    obtain rfl : c3 = .slice oa os.length oc := by simpa using eo'
    exact ⟨⟨wd, rg, is, os⟩, ⟨ia, ic, oa, oc⟩, rfl, hi, ho⟩
end
theorem i64_wf {n : Int} (h : (Lit.int .i64 n).wf = true) : -9223372036854775808 ≤ n ∧ n ≤ 9223372036854775807 := by
  simp [Lit.wf, IntKind.min, IntKind.max, IntKind.signed, IntKind.bits] at h
  omega
theorem u64_wf {n : Int} (h : (Lit.int .u64 n).wf = true) : 0 ≤ n ∧ n < 18446744073709551616 := by
  simp [Lit.wf, IntKind.min, IntKind.max, IntKind.signed, IntKind.bits] at h
  omega
end Go.Proofs.Sat
/- Arrays of numbers given by value. -/
namespace Go.Proofs.Sat
open Go Go.RowKit
theorem okWide_arr {P : Program} {w : World} {r : Reach} {base : Nat} {t : TypeId} {v : Value} {n : Nat} {e : TypeId} (ht : P.underlying t = some (.array n e)) (h : Value.okWide P w r base t v) : ∃ cs, v = .agg cs ∧ cs.size = P.cellsOf t := by
  simp only [Value.okWide, ht] at h
  obtain ⟨cs, h1, h2, _⟩ := h
  exact ⟨cs, h1, h2⟩
section
variable {H : Type} {enc : TypeId × Value → H} {w : World}
theorem trod_nums {P : Program} {t e : TypeId} {n : Nat} {k : IntKind} (ht : P.underlying t = some (.array n e)) (he : P.underlying e = some (.int k)) (hc : P.cellsOf t = n) (hce : P.cellsOf e = 1) {fuel : Nat} {cs : List Value} {x : DataW H × List MemPlace}
    (h : DataW.trod enc P w 0 (fun _ => true) true fuel t cs = some x) : cs.length = n ∧ ∃ m : Nat → Int, ∀ i, i < n → cs[i]? = some (.int k (m i)) ∧ (Lit.int k (m i)).wf = true := by
  obtain ⟨xs, f, rfl, rfl, hl, hlen, hf⟩ := DataW.trod_array ht h
  rw [hc] at hl
  refine ⟨hl, ?_⟩
  have hall : ∀ i, i < n → ∃ z : Int, cs[i]? = some (.int k z) ∧ (Lit.int k z).wf = true := fun i hi => by
    have h1 := hf i hi
    rw [hce, Nat.mul_one, List.getElem?_eq_getElem (by omega)] at h1
    obtain ⟨z, e1, _, e3⟩ := DataW.trod_int he h1
    refine ⟨z, ?_, e3⟩
    have h2 : ((cs.drop i).take 1)[0]? = some (.int k z) := by rw [e1]; rfl
    simpa using h2
  refine ⟨fun i => if hi : i < n then (hall i hi).choose else 0, fun i hi => ?_⟩
  simp only [hi, dif_pos]
  exact (hall i hi).choose_spec
theorem trod_two {P : Program} {t e : TypeId} {k : IntKind} (ht : P.underlying t = some (.array 2 e)) (he : P.underlying e = some (.int k)) (hc : P.cellsOf t = 2) (hce : P.cellsOf e = 1) {fuel : Nat} {cs : List Value} {x : DataW H × List MemPlace}
    (h : DataW.trod enc P w 0 (fun _ => true) true fuel t cs = some x) : ∃ a b : Int, cs = [.int k a, .int k b] ∧ (Lit.int k a).wf = true ∧ (Lit.int k b).wf = true := by
  obtain ⟨hl, m, hm⟩ := trod_nums ht he hc hce h
  match cs, hl with
  | [c0, c1], _ =>
    obtain ⟨e0, w0⟩ := hm 0 (by omega)
    obtain ⟨e1, w1⟩ := hm 1 (by omega)
    exact ⟨m 0, m 1, by simp at e0 e1; rw [e0, e1], w0, w1⟩
theorem trod_eight {P : Program} {t e : TypeId} {k : IntKind} (ht : P.underlying t = some (.array 8 e)) (he : P.underlying e = some (.int k)) (hc : P.cellsOf t = 8) (hce : P.cellsOf e = 1) {fuel : Nat} {cs : List Value} {x : DataW H × List MemPlace}
    (h : DataW.trod enc P w 0 (fun _ => true) true fuel t cs = some x) : ∃ m : Nat → Int, cs = [.int k (m 0), .int k (m 1), .int k (m 2), .int k (m 3), .int k (m 4), .int k (m 5), .int k (m 6), .int k (m 7)] ∧ ∀ i, i < 8 → (Lit.int k (m i)).wf = true := by
  obtain ⟨hl, m, hm⟩ := trod_nums ht he hc hce h
  refine ⟨m, ?_, fun i hi => (hm i hi).2⟩
  match cs, hl with
  | [c0, c1, c2, c3, c4, c5, c6, c7], _ =>
    have e0 := (hm 0 (by omega)).1
    have e1 := (hm 1 (by omega)).1
    have e2 := (hm 2 (by omega)).1
    have e3 := (hm 3 (by omega)).1
    have e4 := (hm 4 (by omega)).1
    have e5 := (hm 5 (by omega)).1
    have e6 := (hm 6 (by omega)).1
    have e7 := (hm 7 (by omega)).1
    simp at e0 e1 e2 e3 e4 e5 e6 e7
    rw [e0, e1, e2, e3, e4, e5, e6, e7]
end
end Go.Proofs.Sat
/- A program given by value, its immediate values within a word. -/
namespace Go.Proofs.Sat
open Go Go.RowKit
/-- A slice that reads, its elements reading at a lower fuel, each as the predicate says. -/
theorem slice_atP {α : Type} {P : Program} {d : Kd α} {t e : TypeId} (Pz : α → Prop) (ht : P.underlying t = some (.slice e)) (hd : P.cellsOf e = d.sz) (hs : 0 < d.sz) {H : Type} {enc : TypeId × Value → H} {w : World} {fuel : Nat} {cs : List Value} {x : DataW H × List MemPlace}
    (hx : DataW.trod enc P w 0 (fun _ => true) true fuel t cs = some x) (hel : ∀ n, n < fuel → ∀ cs' y, DataW.trod enc P w 0 (fun _ => true) true n e cs' = some y → ∃ z, d.K (fun _ => True) w cs' z ∧ Pz z) : ∃ l, (Kd.slice d).K (fun _ => True) w cs l ∧ ∀ z ∈ l, Pz z := by
  rcases DataW.trod_slice ht hx with ⟨rfl, _⟩ | ⟨a, len, cap, elems, rest, n, rfl, rfl, _, _, hl, hm, hlen, he, _, _⟩
  · exact ⟨[], ⟨none, 0, rfl, Rd.nil _ _ _ _ _ (by omega)⟩, fun z hz => by cases hz⟩
  · have hall : ∀ i, i < len → ∃ y, (∃ cs', w.cells? 0 (a.add (i * d.sz)) d.sz = some cs' ∧ d.K (fun _ => True) w cs' y) ∧ Pz y := fun i hi => by
      have h := he i hi
      rw [hd, List.getElem?_eq_getElem (by omega), Option.bind_eq_some_iff] at h
      obtain ⟨cs', h1, h2⟩ := h
      obtain ⟨z, hz, hp⟩ := hel n (by omega) cs' _ h2
      exact ⟨z, ⟨cs', h1, hz⟩, hp⟩
    obtain ⟨l, rfl, hp⟩ := exists_list len hall
    refine ⟨l, ⟨some a, cap, rfl, hl, by simpa [maxLen] using hm, fun hpos => ?_⟩, fun z hz => ?_⟩
    · obtain ⟨⟨cs0, h0, _⟩, _⟩ := hp 0 hpos
      obtain ⟨_, hl0, hc0⟩ := World.cells?_some h0
      have hz : a.add (0 * d.sz) = a := by simp [Addr.add]
      have h00 := hc0 0 hs
      rw [hz, show a.add 0 = a from by simp [Addr.add], List.getElem?_eq_getElem (by omega)] at h00
      obtain ⟨b, o, rfl, hb⟩ := addr_of_cell h00
      refine ⟨b, o, rfl, trivial, hb, fun j hj => ?_⟩
      obtain ⟨⟨cs', h1, h2⟩, _⟩ := hp j hj
      obtain ⟨_, hl1, hc1⟩ := World.cells?_some h1
      refine ⟨cs', h2, fun i u hu => ?_⟩
      have hi : i < d.sz := by rw [← hl1]; exact (List.getElem?_eq_some_iff.1 hu).1
      have := hc1 i hi
      rw [add_plain, add_plain, hu] at this
      exact this
    · obtain ⟨i, hi, rfl⟩ := List.getElem_of_mem hz
      exact (hp i hi).2
section
variable {H : Type} {enc : TypeId × Value → H} {w : World}
theorem one_intw {P : Program} {t : TypeId} {k : IntKind} (ht : P.underlying t = some (.int k)) {fuel : Nat} {c : Value} {x : Option (DataW H × List MemPlace)} (h : DataW.trod enc P w 0 (fun _ => true) true fuel t [c] = x) (hx : x.isSome = true) : ∃ n, c = .int k n ∧ (Lit.int k n).wf = true := by
  obtain ⟨y, rfl⟩ := Option.isSome_iff_exists.1 hx
  obtain ⟨n, e, _, h3⟩ := DataW.trod_int ht h
  exact ⟨n, by simpa using e, h3⟩
set_option maxRecDepth 20000 in
theorem trod_insP (fuel : Nat) (cs : List Value) (x : DataW H × List MemPlace) (h : DataW.trod enc Tryd.prog w 0 (fun _ => true) true fuel 25 cs = some x) : ∃ y, kIn.K (fun _ => True) w cs y ∧ 0 ≤ y.imm ∧ y.imm < 18446744073709551616 := by
  obtain ⟨xs, n, rfl, rfl, hl, hlen, hf⟩ := DataW.trod_struct Tryd.underlying25 h
  rw [show (Tryd.prog).cellsOf 25 = 6 from by kernel_rfl] at hl
  have h0 := hf 0 _ rfl
  have h1 := hf 1 _ rfl
  have h2 := hf 2 _ rfl
  have h3 := hf 3 _ rfl
  have h4 := hf 4 _ rfl
  have h5 := hf 5 _ rfl
  have hs : ∀ i, i < 6 → (xs[i]?).isSome = true := fun i hi => by
    have hx : xs.length = 6 := hlen
    simp [hx, hi]
  match cs, hl with
  | [c0, c1, c2, c3, c4, c5], _ =>
    obtain ⟨o, rfl⟩ := one_int Tryd.underlying22 h0 (hs 0 (by omega))
    obtain ⟨d, rfl⟩ := one_int Tryd.underlying3 h1 (hs 1 (by omega))
    obtain ⟨a, rfl⟩ := one_int Tryd.underlying3 h2 (hs 2 (by omega))
    obtain ⟨b, rfl⟩ := one_int Tryd.underlying3 h3 (hs 3 (by omega))
    obtain ⟨c, rfl⟩ := one_int Tryd.underlying3 h4 (hs 4 (by omega))
    obtain ⟨m, rfl, hm⟩ := one_intw Tryd.underlying23 h5 (hs 5 (by omega))
    exact ⟨⟨o, d, a, b, c, m⟩, rfl, u64_wf hm⟩
set_option maxRecDepth 20000 in
theorem trod_codeP (fuel : Nat) (cs : List Value) (x : DataW H × List MemPlace) (h : DataW.trod enc Tryd.prog w 0 (fun _ => true) true fuel 36 cs = some x) :
    ∃ (c : Cd) (p : CdAt), cs = [.int .i64 c.width, .int .i64 c.regs, .slice p.ia c.ins.length p.ic, .slice p.oa c.out.length p.oc] ∧ CdRd (fun _ => True) w c p ∧ ∀ y ∈ c.ins, 0 ≤ y.imm ∧ y.imm < 18446744073709551616 := by
  obtain ⟨xs, n, rfl, rfl, hl, hlen, hf⟩ := DataW.trod_struct Tryd.underlying36 h
  rw [show (Tryd.prog).cellsOf 36 = 4 from by kernel_rfl] at hl
  have h0 := hf 0 _ rfl
  have h1 := hf 1 _ rfl
  have h2 := hf 2 _ rfl
  have h3 := hf 3 _ rfl
  have hs : ∀ i, i < 4 → ∃ y, xs[i]? = some y := fun i hi => by
    have hx : xs.length = 4 := hlen
    exact ⟨xs[i], List.getElem?_eq_getElem (by omega)⟩
  match cs, hl with
  | [c0, c1, c2, c3], _ =>
    obtain ⟨y0, e0⟩ := hs 0 (by omega)
    obtain ⟨y1, e1⟩ := hs 1 (by omega)
    obtain ⟨y2, e2⟩ := hs 2 (by omega)
    obtain ⟨y3, e3⟩ := hs 3 (by omega)
    obtain ⟨wd, rfl⟩ := one_int Tryd.underlying3 h0 (by rw [e0]; rfl)
    obtain ⟨rg, rfl⟩ := one_int Tryd.underlying3 h1 (by rw [e1]; rfl)
    rw [e2] at h2
    rw [e3] at h3
    obtain ⟨is, ⟨ia, ic, ei, hi⟩, hP⟩ := slice_atP (d := kIn) (fun y => 0 ≤ y.imm ∧ y.imm < 18446744073709551616) Tryd.underlying34 (by kernel_rfl) (by decide) h2 (fun m hm cs' y hy => trod_insP m cs' y hy)
    obtain ⟨os, oa, oc, eo, ho⟩ := slice_at (d := Kd.int .i64) Tryd.underlying29 (by kernel_rfl) (by decide) h3 (fun m hm cs' y hy => by
      obtain ⟨n, e, _, _⟩ := DataW.trod_int Tryd.underlying3 hy
      exact ⟨n, e⟩)
    have ei' : [c2] = [.slice ia is.length ic] := ei
    have eo' : [c3] = [.slice oa os.length oc] := eo
    obtain rfl : c2 = .slice ia is.length ic := by simpa using ei'
    obtain rfl : c3 = .slice oa os.length oc := by simpa using eo'
    exact ⟨⟨wd, rg, is, os⟩, ⟨ia, ic, oa, oc⟩, rfl, ⟨hi, ho⟩, hP⟩
end
end Go.Proofs.Sat
