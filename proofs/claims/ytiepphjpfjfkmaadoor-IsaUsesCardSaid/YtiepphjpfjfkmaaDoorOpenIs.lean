/- A program, and an instruction, given by value, every number within its type. -/
import Derived.Test.YtiepphjpfjfkmaaDoorOpenIm
import Derived.Test.YtiepphjpfjfkmaaDoorMsG
set_option linter.unusedVariables false
set_option linter.unusedSimpArgs false
namespace Go.Proofs.Sat
open Go Go.RowKit
section
variable {H : Type} {enc : TypeId × Value → H} {w : World}
set_option maxRecDepth 20000 in
theorem trod_insW (fuel : Nat) (cs : List Value) (x : DataW H × List MemPlace) (h : DataW.trod enc Tryd.prog w 0 (fun _ => true) true fuel 25 cs = some x) : ∃ y, kIn.K (fun _ => True) w cs y ∧ InOK y := by
  obtain ⟨xs, n, rfl, rfl, hl, hlen, hf⟩ := DataW.trod_struct Tryd.underlying25 h
  rw [show (Tryd.prog).cellsOf 25 = 6 from by kernel_rfl] at hl
  have h0 := hf 0 _ rfl
  have h1 := hf 1 _ rfl
  have h2 := hf 2 _ rfl
  have h3 := hf 3 _ rfl
  have h4 := hf 4 _ rfl
  have h5 := hf 5 _ rfl
  have hs : ∀ i, i < 6 → (xs[i]?).isSome = true := fun i hi => by
    have hx : xs.length = 6 := hlen
    simp [hx, hi]
  match cs, hl with
  | [c0, c1, c2, c3, c4, c5], _ =>
    obtain ⟨o, rfl⟩ := one_int Tryd.underlying22 h0 (hs 0 (by omega))
    obtain ⟨d, rfl, hd⟩ := one_intw Tryd.underlying3 h1 (hs 1 (by omega))
    obtain ⟨a, rfl, ha⟩ := one_intw Tryd.underlying3 h2 (hs 2 (by omega))
    obtain ⟨b, rfl, hb⟩ := one_intw Tryd.underlying3 h3 (hs 3 (by omega))
    obtain ⟨c, rfl, hc⟩ := one_intw Tryd.underlying3 h4 (hs 4 (by omega))
    obtain ⟨m, rfl, hm⟩ := one_intw Tryd.underlying23 h5 (hs 5 (by omega))
    refine ⟨⟨o, d, a, b, c, m⟩, rfl, i64_wf hd, fun r hr => ?_, u64_wf hm⟩
    simp only [List.mem_cons, List.not_mem_nil, or_false] at hr
    rcases hr with rfl | rfl | rfl
    · exact i64_wf ha
    · exact i64_wf hb
    · exact i64_wf hc
set_option maxRecDepth 20000 in
theorem trod_codeW (fuel : Nat) (cs : List Value) (x : DataW H × List MemPlace) (h : DataW.trod enc Tryd.prog w 0 (fun _ => true) true fuel 36 cs = some x) :
    ∃ (c : Cd) (p : CdAt), cs = [.int .i64 c.width, .int .i64 c.regs, .slice p.ia c.ins.length p.ic, .slice p.oa c.out.length p.oc] ∧ CdRd (fun _ => True) w c p ∧ CdOK c := by
  obtain ⟨xs, n, rfl, rfl, hl, hlen, hf⟩ := DataW.trod_struct Tryd.underlying36 h
  rw [show (Tryd.prog).cellsOf 36 = 4 from by kernel_rfl] at hl
  have h0 := hf 0 _ rfl
  have h1 := hf 1 _ rfl
  have h2 := hf 2 _ rfl
  have h3 := hf 3 _ rfl
  have hs : ∀ i, i < 4 → ∃ y, xs[i]? = some y := fun i hi => by
    have hx : xs.length = 4 := hlen
    exact ⟨xs[i], List.getElem?_eq_getElem (by omega)⟩
  match cs, hl with
  | [c0, c1, c2, c3], _ =>
    obtain ⟨y0, e0⟩ := hs 0 (by omega)
    obtain ⟨y1, e1⟩ := hs 1 (by omega)
    obtain ⟨y2, e2⟩ := hs 2 (by omega)
    obtain ⟨y3, e3⟩ := hs 3 (by omega)
    obtain ⟨wd, rfl, hw⟩ := one_intw Tryd.underlying3 h0 (by rw [e0]; rfl)
    obtain ⟨rg, rfl, hr⟩ := one_intw Tryd.underlying3 h1 (by rw [e1]; rfl)
    rw [e2] at h2
    rw [e3] at h3
    obtain ⟨is, ⟨ia, ic, ei, hi⟩, hP⟩ := slice_atP (d := kIn) InOK Tryd.underlying34 (by kernel_rfl) (by decide) h2 (fun m hm cs' y hy => trod_insW m cs' y hy)
    obtain ⟨os, ⟨oa, oc, eo, ho⟩, hQ⟩ := slice_atP (d := Kd.int .i64) (fun n => -9223372036854775808 ≤ n ∧ n ≤ 9223372036854775807) Tryd.underlying29 (by kernel_rfl) (by decide) h3 (fun m hm cs' y hy => by
      obtain ⟨n, e, _, hn⟩ := DataW.trod_int Tryd.underlying3 hy
      exact ⟨n, e, i64_wf hn⟩)
    have ei' : [c2] = [.slice ia is.length ic] := ei
    have eo' : [c3] = [.slice oa os.length oc] := eo
    obtain rfl : c2 = .slice ia is.length ic := by simpa using ei'
    obtain rfl : c3 = .slice oa os.length oc := by simpa using eo'
    exact ⟨⟨wd, rg, is, os⟩, ⟨ia, ic, oa, oc⟩, rfl, ⟨hi, ho⟩, i64_wf hw, i64_wf hr, hP, hQ⟩
theorem CdOK.imm {c : Cd} (h : CdOK c) : ImmOK c.ins := fun x hx => (h.ins x hx).imm
end
end Go.Proofs.Sat
