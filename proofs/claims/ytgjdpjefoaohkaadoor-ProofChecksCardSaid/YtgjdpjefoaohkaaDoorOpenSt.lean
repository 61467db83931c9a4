/- From a reading of terms, substitutions and steps to the walks' words. -/
import Derived.Test.YtgjdpjefoaohkaaDoorOpenW
import Derived.Test.YtgjdpjefoaohkaaDoorStW
import Derived.Test.YtgjdpjefoaohkaaDoorProg
set_option linter.unusedVariables false
set_option linter.unusedSimpArgs false
namespace Go.Proofs.Sat
open Go Go.RowKit
open Go.ChangeMaps (open_string shut_string)
/-- A slice that reads, its elements reading at a lower fuel. -/
theorem slice_at {α : Type} {P : Program} {d : Kd α} {t e : TypeId} (ht : P.underlying t = some (.slice e)) (hd : P.cellsOf e = d.sz) (hs : 0 < d.sz) {H : Type} {enc : TypeId × Value → H} {w : World} {fuel : Nat} {cs : List Value} {x : DataW H × List MemPlace}
    (hx : DataW.trod enc P w 0 (fun _ => true) true fuel t cs = some x) (hel : ∀ n, n < fuel → ∀ cs' y, DataW.trod enc P w 0 (fun _ => true) true n e cs' = some y → ∃ z, d.K (fun _ => True) w cs' z) : ∃ l, (Kd.slice d).K (fun _ => True) w cs l := by
  rcases DataW.trod_slice ht hx with ⟨rfl, _⟩ | ⟨a, len, cap, elems, rest, n, rfl, rfl, _, _, hl, hm, hlen, he, _, _⟩
  · exact ⟨[], none, 0, rfl, Rd.nil _ _ _ _ _ (by omega)⟩
  · have hall : ∀ i, i < len → ∃ y, ∃ cs', w.cells? 0 (a.add (i * d.sz)) d.sz = some cs' ∧ d.K (fun _ => True) w cs' y := fun i hi => by
      have h := he i hi
      rw [hd, List.getElem?_eq_getElem (by omega), Option.bind_eq_some_iff] at h
      obtain ⟨cs', h1, h2⟩ := h
      obtain ⟨z, hz⟩ := hel n (by omega) cs' _ h2
      exact ⟨z, cs', h1, hz⟩
    obtain ⟨l, rfl, hp⟩ := exists_list len hall
    refine ⟨l, some a, cap, rfl, hl, by simpa [maxLen] using hm, fun hpos => ?_⟩
    obtain ⟨cs0, h0, _⟩ := hp 0 hpos
    obtain ⟨_, hl0, hc0⟩ := World.cells?_some h0
    have hz : a.add (0 * d.sz) = a := by simp [Addr.add]
    have h00 := hc0 0 hs
    rw [hz, show a.add 0 = a from by simp [Addr.add], List.getElem?_eq_getElem (by omega)] at h00
    obtain ⟨b, o, rfl, hb⟩ := addr_of_cell h00
    refine ⟨b, o, rfl, trivial, hb, fun j hj => ?_⟩
    obtain ⟨cs', h1, h2⟩ := hp j hj
    obtain ⟨_, hl1, hc1⟩ := World.cells?_some h1
    refine ⟨cs', h2, fun i u hu => ?_⟩
    have hi : i < d.sz := by rw [← hl1]; exact (List.getElem?_eq_some_iff.1 hu).1
    have := hc1 i hi
    rw [add_plain, add_plain, hu] at this
    exact this
section
variable {H : Type} {enc : TypeId × Value → H} {w : World}
theorem one_int {P : Program} {t : TypeId} {k : IntKind} (ht : P.underlying t = some (.int k)) {fuel : Nat} {c : Value} {x : Option (DataW H × List MemPlace)} (h : DataW.trod enc P w 0 (fun _ => true) true fuel t [c] = x) (hx : x.isSome = true) : ∃ n, c = .int k n := by
  obtain ⟨y, rfl⟩ := Option.isSome_iff_exists.1 hx
  obtain ⟨n, e, _, _⟩ := DataW.trod_int ht h
  exact ⟨n, by simpa using e⟩
theorem one_str {P : Program} {t : TypeId} (ht : P.underlying t = some .string) {fuel : Nat} {c : Value} {x : Option (DataW H × List MemPlace)} (h : DataW.trod enc P w 0 (fun _ => true) true fuel t [c] = x) (hx : x.isSome = true) : ∃ s, c = .string s := by
  obtain ⟨y, rfl⟩ := Option.isSome_iff_exists.1 hx
  obtain ⟨n, e, _, _⟩ := DataW.trod_string ht h
  exact ⟨n, by simpa using e⟩
theorem trod_term : ∀ (fuel : Nat) (cs : List Value) (x : DataW H × List MemPlace), DataW.trod enc Tryd.prog w 0 (fun _ => true) true fuel 34 cs = some x → ∃ y, kT.K (fun _ => True) w cs y := by
  intro fuel
  induction fuel using Nat.strongRecOn with
  | ind fuel ih =>
    intro cs x h
    obtain ⟨xs, n, rfl, rfl, hl, hlen, hf⟩ := DataW.trod_struct Tryd.underlying34 h
    rw [show (Tryd.prog).cellsOf 34 = 5 from by kernel_rfl] at hl
    have h0 := hf 0 _ rfl
    have h1 := hf 1 _ rfl
    have h2 := hf 2 _ rfl
    have h3 := hf 3 _ rfl
    have h4 := hf 4 _ rfl
    have hs : ∀ i, i < 5 → (xs[i]?).isSome = true := fun i hi => by
      have hx : xs.length = 5 := hlen
      simp [hx, hi]
    match cs, hl with
    | [c0, c1, c2, c3, c4], _ =>
      obtain ⟨o, rfl⟩ := one_int Tryd.underlying30 h0 (hs 0 (by omega))
      obtain ⟨wd, rfl⟩ := one_int Tryd.underlying3 h1 (hs 1 (by omega))
      obtain ⟨v, rfl⟩ := one_int Tryd.underlying31 h2 (hs 2 (by omega))
      obtain ⟨s, rfl⟩ := one_str Tryd.underlying9 h3 (hs 3 (by omega))
      obtain ⟨y4, e4⟩ := Option.isSome_iff_exists.1 (hs 4 (by omega))
      rw [e4] at h4
      obtain ⟨l, a, c, ec, hr⟩ := slice_at (d := kT) Tryd.underlying32 (by kernel_rfl) (by decide) h4 (fun m hm cs' y hy => ih m (by omega) cs' y hy)
      have ec' : [c4] = [.slice a l.length c] := ec
      obtain rfl : c4 = .slice a l.length c := by simpa using ec'
      exact ⟨.mk o wd v s l, kT_mk (x := .mk o wd v s l) hr⟩
theorem trod_sub : ∀ (fuel : Nat) (cs : List Value) (x : DataW H × List MemPlace), DataW.trod enc Tryd.prog w 0 (fun _ => true) true fuel 57 cs = some x → ∃ y, kSb.K (fun _ => True) w cs y := by
  intro fuel cs x h
  obtain ⟨xs, n, rfl, rfl, hl, hlen, hf⟩ := DataW.trod_struct Tryd.underlying57 h
  rw [show (Tryd.prog).cellsOf 57 = 6 from by kernel_rfl] at hl
  have h0 := hf 0 _ rfl
  have h1 := hf 1 _ rfl
  have hs : ∀ i, i < 2 → (xs[i]?).isSome = true := fun i hi => by
    have hx : xs.length = 2 := hlen
    simp [hx, hi]
  match cs, hl with
  | [c0, c1, c2, c3, c4, c5], _ =>
    obtain ⟨s, rfl⟩ := one_str Tryd.underlying9 h0 (hs 0 (by omega))
    obtain ⟨y1, e1⟩ := Option.isSome_iff_exists.1 (hs 1 (by omega))
    rw [e1] at h1
    obtain ⟨y, hy⟩ := trod_term _ _ _ h1
    obtain ⟨a, c, ec, hr⟩ := kT_open hy
    refine ⟨⟨s, y⟩, a, c, ?_, hr⟩
    show [_, c1, c2, c3, c4, c5] = _ :: tmCells y a c
    rw [← ec]
    rfl
theorem trod_step : ∀ (fuel : Nat) (cs : List Value) (x : DataW H × List MemPlace), DataW.trod enc Tryd.prog w 0 (fun _ => true) true fuel 36 cs = some x → ∃ y, kSt.K (fun _ => True) w cs y := by
  intro fuel cs x h
  obtain ⟨xs, n, rfl, rfl, hl, hlen, hf⟩ := DataW.trod_struct Tryd.underlying36 h
  rw [show (Tryd.prog).cellsOf 36 = 14 from by kernel_rfl] at hl
  have h0 := hf 0 _ rfl
  have h1 := hf 1 _ rfl
  have h2 := hf 2 _ rfl
  have h3 := hf 3 _ rfl
  have h4 := hf 4 _ rfl
  have h5 := hf 5 _ rfl
  have hs : ∀ i, i < 6 → ∃ y, xs[i]? = some y := fun i hi => by
    have hx : xs.length = 6 := hlen
    exact ⟨xs[i], List.getElem?_eq_getElem (by omega)⟩
  match cs, hl with
  | [c0, c1, c2, c3, c4, c5, c6, c7, c8, c9, c10, c11, c12, c13], _ =>
    obtain ⟨y0, e0⟩ := hs 0 (by omega)
    obtain ⟨y1, e1⟩ := hs 1 (by omega)
    obtain ⟨y2, e2⟩ := hs 2 (by omega)
    obtain ⟨y3, e3⟩ := hs 3 (by omega)
    obtain ⟨y4, e4⟩ := hs 4 (by omega)
    obtain ⟨y5, e5⟩ := hs 5 (by omega)
    obtain ⟨kd, rfl⟩ := one_int Tryd.underlying3 h0 (by rw [e0]; rfl)
    obtain ⟨ru, rfl⟩ := one_int Tryd.underlying3 h2 (by rw [e2]; rfl)
    rw [e1] at h1
    rw [e3] at h3
    rw [e4] at h4
    rw [e5] at h5
    obtain ⟨rs, ra, rc, er, hr⟩ := slice_at (d := Kd.int .i64) Tryd.underlying28 (by kernel_rfl) (by decide) h1 (fun m hm cs' y hy => by
      obtain ⟨n, e, _, _⟩ := DataW.trod_int Tryd.underlying3 hy
      exact ⟨n, e⟩)
    obtain ⟨sb, sa, sc, es, hsb⟩ := slice_at (d := kSb) Tryd.underlying29 (by kernel_rfl) (by decide) h3 (fun m hm cs' y hy => trod_sub m cs' y hy)
    obtain ⟨a, ha⟩ := trod_term _ _ _ h4
    obtain ⟨aa, ac, ea, hra⟩ := kT_open ha
    obtain ⟨b, hb⟩ := trod_term _ _ _ h5
    obtain ⟨ba, bc, eb, hrb⟩ := kT_open hb
    have er' : [c1] = [.slice ra rs.length rc] := er
    have es' : [c3] = [.slice sa sb.length sc] := es
    obtain rfl : c1 = .slice ra rs.length rc := by simpa using er'
    obtain rfl : c3 = .slice sa sb.length sc := by simpa using es'
    refine ⟨⟨kd, rs, ru, sb, a, b⟩, ⟨ra, rc, sa, sc, aa, ac, ba, bc⟩, ?_, hr, hsb, hra, hrb⟩
    have ea' : [c4, c5, c6, c7, c8] = tmCells a aa ac := ea
    have eb' : [c9, c10, c11, c12, c13] = tmCells b ba bc := eb
    show _ :: _ :: _ :: _ :: ([c4, c5, c6, c7, c8] ++ [c9, c10, c11, c12, c13]) = _
    rw [ea', eb']
    rfl
end
theorem opens_steps : Opens Tryd.prog (Kd.slice kSt) 27 fun _ => True := by
  refine ⟨by kernel_rfl, fun H enc w fuel cs x h => ?_⟩
  obtain ⟨l, hl⟩ := slice_at (d := kSt) Tryd.underlying27 (by kernel_rfl) (by decide) h (fun m hm cs' y hy => trod_step m cs' y hy)
  exact ⟨l, hl, trivial⟩
end Go.Proofs.Sat
