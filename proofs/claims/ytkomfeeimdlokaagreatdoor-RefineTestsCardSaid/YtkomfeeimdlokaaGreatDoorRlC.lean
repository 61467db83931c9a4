/- The walks of ref49's Trace, Run and Outs. -/
import Derived.Test.YtkomfeeimdlokaaGreatDoorRlB
import Derived.Test.YtkomfeeimdlokaaGreatDoorLvQ4
set_option linter.unusedVariables false
set_option linter.unusedSimpArgs false
namespace Go.Proofs.Sat
open Go Go.RowKit
theorem infoU64s : ElemInfo Tryz.prog 37 32 (.slice none 0 0) 1 24 := ⟨Tryz.underlying37, by kernel_rfl, rfl, by decide⟩
/-- A state as an element of a row. -/
theorem st_elem8 {w : World} {g R : Nat} {s : Nat → Nat} (h : St8 w g R s) (hR : R ≤ 8) (S : Nat → Prop) (hS : S g) : (Kd.slice (Kd.int .u64)).K S w [.slice (some ⟨g, 0, none⟩) R R] (stL R s) :=
  ⟨some ⟨g, 0, none⟩, R, by rw [stL_length], h.rd S hS (by omega)⟩
theorem runN_at {n k : Nat} {l : List In} (hk : k < l.length) (s : Nat → Nat) : runN n (l.drop k) s = match stepN n s l[k] with | none => (s, false) | some s2 => runN n (l.drop (k + 1)) s2 := by
  rw [List.drop_eq_getElem_cons hk]
  rfl
theorem stepQ_none {R B : Nat} {e : Ending} {w : World} (h : StepQ R B none e w) : e = .returned (.tuple #[.slice none 0 0, .int .i64 17]) := by
  rcases h with ⟨-, h⟩ | ⟨s, g, h, -⟩
  · exact h
  · cases h
theorem stepQ_some {R B : Nat} {s : Nat → Nat} {e : Ending} {w : World} (h : StepQ R B (some s) e w) : ∃ g, B ≤ g ∧ e = .returned (.tuple #[.slice (some ⟨g, 0, none⟩) R R, .int .i64 0]) ∧ St8 w g R s := by
  rcases h with ⟨h, -⟩ | ⟨s', g, h, h1, h2, h3⟩
  · cases h
  · cases h; exact ⟨g, h1, h2, h3⟩
/-- The end of a trace. -/
def TrQ (c : Cd) (l : List Int) (H : Nat) (v : Value) (w' : World) : Prop :=
  (∃ a m k, v = .slice a m k) ∧ (errR c l = 0 → ∃ (xs : List (List Int)) (R : Nat), c.regs = (R : Int) ∧ Own (Kd.slice (Kd.int .u64)) 32 (FromB (H + 1)) w' (H + 1) v (xs ++ [stL R (finR c l).1]) ∧ xs.length ≤ 256)
set_option maxRecDepth 20000 in
set_option maxHeartbeats 4000000 in
theorem ref49_Trace (S Sl : Nat → Prop) (c : Cd) (p : CdAt) (l : List Int) (a : Option Addr) (ca : Nat) (w : World) (h : CdRd S w c p) (himm : ∀ x ∈ c.ins, 0 ≤ x.imm ∧ x.imm < 18446744073709551616) (hr : Rd (Kd.int .u64) Sl w a ca l) (hl : ∀ x ∈ l, 0 ≤ x ∧ x < 18446744073709551616) :
    Calls Tryz.prog 93 #[cdVal c p, .slice a l.length ca] w fun e w' => ∃ v, e = .returned (.tuple #[v, .int .i64 (errR c l)]) ∧ TrQ c l w.heap.size v w' ∧ Below w.heap.size w w' := by
  have CC := Lib.hid (fun W (b : Below w.heap.size w W) => ref48_Check S c p W (h.frame (Same.below b)) himm)
  obtain ⟨ia, ic, oa, oc⟩ := p
  have BW := Lib.hid (below_alloc (Below.refl w.heap.size w) (.cells (cellsC c ia ic oa oc) 25))
  have KC := Lib.hid (heap_alloc_new w (.cells (cellsC c ia ic oa oc) 25))
  have HC := Lib.hid h
  have HIM := Lib.hid himm
  have HR0 := Lib.hid hr
  have HL0 := Lib.hid hl
  have hol := h.out.le
  have hil := h.ins.le
  have hll := hr.le
  clear h hr hl himm
  unfold cdVal
  go_enter Tryz.func93, Tryz.ntmps93
  obtain ⟨z0, z1, z2, z3⟩ := cd_block4 KC.out
  go_wp2_with fail
  refine (CC.out _ BW.out).mono ?_
  rintro e w1 ⟨rfl, b1⟩
  have B1 := Lib.hid (below_both BW.out b1)
  have KC1 := Lib.hid (block_below b1 KC.out)
  clear b1 z0 z1 z2 z3 BW KC CC
  obtain ⟨z0, z1, z2, z3⟩ := cd_block4 KC1.out
  by_cases he : cdErr c = 0
  case neg =>
    have t0 : (cdErr c != 0) = true := by simpa using he
    have HE : Hid (errR c l = cdErr c) := by show _ = _; unfold errR; rw [if_pos he]
    have HZ : Hid (errR c l ≠ 0) := by show _ ≠ _; rw [HE.out]; exact he
    clear he
    go_wp2_with fail
    go_ret2
    exact ⟨_, by rw [HE.out]; rfl, ⟨⟨_, _, _, rfl⟩, fun hh => absurd hh HZ.out⟩, B1.out⟩
  have t0 : (cdErr c != 0) = false := by simpa using he
  have HOK := Lib.hid (cd_ok he)
  have HER : Hid (errR c l = if (finR c l).2 = true then 0 else 17) := by show _ = _; unfold errR; rw [if_neg (not_not_intro he)]
  clear he
  have hw1 := HOK.out.w1
  have hw2 := HOK.out.w2
  have hr1 := HOK.out.r1
  have hr2 := HOK.out.r2
  obtain ⟨n, hn⟩ := Int.eq_ofNat_of_zero_le (show 0 ≤ c.width by omega)
  obtain ⟨R, hR⟩ := Int.eq_ofNat_of_zero_le (show 0 ≤ c.regs by omega)
  have HN : Hid (c.width = (n : Int)) := hn
  have HR : Hid (c.regs = (R : Int)) := hR
  have hn1 : 1 ≤ n := by omega
  have hn2 : n ≤ 64 := by omega
  have hR1 : 1 ≤ R := by omega
  have hR8 : R ≤ 8 := by omega
  have HFR : Hid (finR c l = runN n c.ins (cutL n l)) := by show _ = _; unfold finR; rw [hn, Int.toNat_natCast]
  have hlen := HOK.out.len
  clear hw1 hw2 hr1 hr2 hn hR
  rw [HN.out] at z0
  rw [HR.out] at z1
  go_wp2_with fail
  refine (ref49_State Sl n R l a ca _ (HR0.out.frame (Same.below B1.out)) HL0.out hn1 hn2 hR8).mono ?_
  rintro e w2 ⟨g2, rfl, hg2, s2, b2⟩
  have B2 := Lib.hid (below_both B1.out b2)
  have KC2 := Lib.hid (block_below b2 KC1.out)
  have S2 := Lib.hid s2
  have HG2 : Hid (w.heap.size + 1 ≤ g2) := by
    show _ ≤ _
    have : w.heap.size < w1.heap.size := (Array.getElem?_eq_some_iff.1 KC1.out).1
    omega
  have H2 : Hid (w.heap.size + 1 ≤ w2.heap.size) := (Array.getElem?_eq_some_iff.1 KC2.out).1
  clear b2 s2 hg2 z0 z1 z2 z3 B1 KC1 t0
  obtain ⟨z0, z1, z2, z3⟩ := cd_block4 KC2.out
  rw [HN.out] at z0
  go_wp2_with fail
  go_loopw [8, 9, 10] (fun v u i wr => ∃ (k g : Nat) (s : Nat → Nat) (xs : List (List Int)), k ≤ c.ins.length ∧ v = .slice (some ⟨g, 0, none⟩) R R ∧ i = .int .i64 k ∧ Hid (runN n c.ins (cutL n l) = runN n (c.ins.drop k) s) ∧ Hid (∀ j, j < R → s j < 2 ^ n) ∧ Hid (St8 wr g R s) ∧ Hid (w.heap.size + 1 ≤ g) ∧ Hid (Own (Kd.slice (Kd.int .u64)) 32 (FromB (w.heap.size + 1)) wr (w.heap.size + 1) u (xs ++ [stL R s])) ∧ Hid (xs.length = k) ∧ Hid (Below w.heap.size w wr) ∧ Hid (wr.heap[w.heap.size]? = some (.cells (cellsC c ia ic oa oc) 25 (0, 0)))) (fun _ _ i _ => c.ins.length - (intOf i).toNat)
  case atStart =>
    refine ⟨0, g2, cutL n l, [], by omega, rfl, rfl, by show _ = _; rw [List.drop_zero], fun j hj => cutL_lt n l j, (S2.out.below (below_alloc (Below.refl _ _) _)), HG2.out, ?_, rfl, below_alloc B2.out _, block_alloc KC2.out _⟩
    exact ⟨[.slice (some ⟨g2, 0, none⟩) R R], ⟨rfl, .inr ⟨w2.heap.size, 1, #[.slice (some ⟨g2, 0, none⟩) R R], rfl, H2.out, heap_alloc_new w2 _, Nat.le_refl _, by simp [maxLen], rfl, rfl⟩⟩, Elems.single (st_elem8 (S2.out.below (below_alloc (Below.refl _ _) _)) hR8 _ ⟨HG2.out, fun e => by have h1 := S2.out.lt; have h2 : g2 = w2.heap.size := Option.some.inj e; omega⟩)⟩
  case round =>
    obtain ⟨k, g, s, xs, hk, rfl, rfl, HRUN, HV, HS, HG, HO, HXL, HB, KC3⟩ := hrel
    clear z0 z1 z2 z3
    obtain ⟨z0, z1, z2, z3⟩ := cd_block4 KC3.out
    rw [HN.out] at z0
    by_cases hlt : k < c.ins.length
    · obtain ⟨b, o, rfl, -, hbw0, hat0⟩ := in_elem (HC.out.ins.frame (Same.below HB.out)) hlt
      have HAT := Lib.hid hat0
      obtain ⟨c0, c1, c2, c3, c4, c5⟩ := hat0
      have hx := HOK.out.ins _ (List.getElem_mem hlt)
      have hi := HIM.out _ (List.getElem_mem hlt)
      have hdr := Lib.hid (runN_at (n := n) hlt s)
      rw [HN.out, HR.out] at hx
      have hf := ins_fields (by omega) hx
      have HES := Lib.hid (stepE_stepN (n := n) (s := s) hx hi.1)
      have HLT : Hid (∀ s2, stepN n s c.ins[k] = some s2 → ∀ i, i < R → s2 i < 2 ^ n) := fun s2 h2 => stepE_lt (x := c.ins[k]) hn1 hn2 (by omega) (by omega) (by omega) HV.out (by rw [HES.out]; exact h2)
      have CX := Lib.hid (fun W (hW : St8 W g R s) => ref49_Step n R g s c.ins[k] W hW hn1 hn2 hR1 hR8 HV.out hx hi)
      rw [HES.out] at CX
      clear hx hi hf HES
      generalize c.ins[k] = x at *
      generalize hq : stepN n s x = q at *
      have HQ := Lib.hid hq
      clear hq
      cases q with
      | none =>
        have HEND : Hid (errR c l = 17) := by
          show _ = _
          rw [HER.out, HFR.out, HRUN.out, hdr.out]
          rfl
        have HZ : Hid (errR c l ≠ 0) := by show _ ≠ _; rw [HEND.out]; decide
        obtain ⟨ua, uc, rfl⟩ := HO.out.form
        go_wp2_with fail
        go_region_held3 (fun w' => (w'.cell? ⟨w.heap.size, 0, none⟩ = some (.int .i64 (n : Int)) ∧ w'.cell? ⟨w.heap.size, 2, none⟩ = some (.slice (some ⟨b, o, none⟩) c.ins.length ic)) ∧
          w'.cell? ⟨b, o + k * 6, none⟩ = some (.int .i64 x.op) ∧ w'.cell? ⟨b, o + k * 6 + 1, none⟩ = some (.int .i64 x.dst) ∧ w'.cell? ⟨b, o + k * 6 + 2, none⟩ = some (.int .i64 x.a) ∧ w'.cell? ⟨b, o + k * 6 + 3, none⟩ = some (.int .i64 x.b) ∧ w'.cell? ⟨b, o + k * 6 + 4, none⟩ = some (.int .i64 x.c) ∧ w'.cell? ⟨b, o + k * 6 + 5, none⟩ = some (.int .u64 x.imm))
          (first | with_reducible exact ⟨⟨y0, y2⟩, e0, e1, e2, e3, e4, e5⟩ | exact ⟨⟨z0, z2⟩, c0, c1, c2, c3, c4, c5⟩)
          (first
          | (go_at_call 109; refine (CX.out _ (by exact HS.out.drawn (Drawn.refl wr).drew)).mono ?_; rintro e w4 ⟨hp, b4⟩; have B4 := Lib.hid (below_both ((Drawn.refl wr).drew.below wr.heap.size) b4); have KC4 := Lib.hid (block_below B4.out KC3.out); obtain ⟨y0, y1, y2, y3⟩ := cd_block4 KC4.out; rw [HN.out] at y0; obtain ⟨e0, e1, e2, e3, e4, e5⟩ := HAT.out.frame (w' := w4) (B4.out.block b hbw0); clear b4; obtain rfl := stepQ_none hp; clear hp)
          | fail)
        go_wp2_with fail
        go_ret2
        exact ⟨_, by rw [HEND.out]; rfl, ⟨⟨_, _, _, rfl⟩, fun hh => absurd hh HZ.out⟩, below_both HB.out B4.out⟩
      | some s3 =>
        have HV3 := Lib.hid (HLT.out s3 rfl)
        have HRUN3 : Hid (runN n c.ins (cutL n l) = runN n (c.ins.drop (k + 1)) s3) := HRUN.out.trans hdr.out
        have hxl := HXL.out
        have hxl2 : (xs ++ [stL R s]).length ≤ 1000 := by rw [List.length_append]; simp; omega
        obtain ⟨X, hX⟩ : ∃ X, X = xs ++ [stL R s] := ⟨_, rfl⟩
        rw [← hX] at HO hxl2
        have HXX := Lib.hid hX
        clear hX
        obtain ⟨ua, uc, rfl⟩ := HO.out.form
        go_wp2_with fail
        go_region_held3 (fun w' => (w'.cell? ⟨w.heap.size, 0, none⟩ = some (.int .i64 (n : Int)) ∧ w'.cell? ⟨w.heap.size, 2, none⟩ = some (.slice (some ⟨b, o, none⟩) c.ins.length ic)) ∧
          w'.cell? ⟨b, o + k * 6, none⟩ = some (.int .i64 x.op) ∧ w'.cell? ⟨b, o + k * 6 + 1, none⟩ = some (.int .i64 x.dst) ∧ w'.cell? ⟨b, o + k * 6 + 2, none⟩ = some (.int .i64 x.a) ∧ w'.cell? ⟨b, o + k * 6 + 3, none⟩ = some (.int .i64 x.b) ∧ w'.cell? ⟨b, o + k * 6 + 4, none⟩ = some (.int .i64 x.c) ∧ w'.cell? ⟨b, o + k * 6 + 5, none⟩ = some (.int .u64 x.imm))
          (first | with_reducible exact ⟨⟨y0, y2⟩, e0, e1, e2, e3, e4, e5⟩ | exact ⟨⟨z0, z2⟩, c0, c1, c2, c3, c4, c5⟩)
          (first
          | (go_at_call 109; refine (CX.out _ (by exact HS.out.drawn (Drawn.refl wr).drew)).mono ?_; rintro e w4 ⟨hp, b4⟩; have B4 := Lib.hid (below_both ((Drawn.refl wr).drew.below wr.heap.size) b4); have KC4 := Lib.hid (block_below B4.out KC3.out); obtain ⟨y0, y1, y2, y3⟩ := cd_block4 KC4.out; rw [HN.out] at y0; obtain ⟨e0, e1, e2, e3, e4, e5⟩ := HAT.out.frame (w' := w4) (B4.out.block b hbw0); clear b4; obtain ⟨g3, hg3, rfl, hs3⟩ := stepQ_some hp; clear hp; have S4 := Lib.hid hs3; have HG3 := Lib.hid hg3; have O4 := Lib.hid (HO.out.below B4.out); clear hs3 hg3)
          | fail)
        have HX : Hid ((Kd.slice (Kd.int .u64)).K (fun b' => FromB (w.heap.size + 1) b' ∧ some b' ≠ (Value.slice ua X.length uc).ownBlock) w4 [.slice (some ⟨g3, 0, none⟩) R R] (stL R s3)) := by
          refine st_elem8 S4.out hR8 _ ⟨?_, fun e => ?_⟩
          · have h1 := HG.out
            have h2 := HS.out.lt
            have h3 : wr.heap.size ≤ g3 := HG3.out
            show _ ≤ _
            omega
          · have h1 := (HO.out.lt _ e.symm).2
            have h3 : wr.heap.size ≤ g3 := HG3.out
            omega
        have H4 : Hid (w.heap.size + 1 ≤ w4.heap.size) := (Array.getElem?_eq_some_iff.1 KC4.out).1
        have BB4 := Lib.hid (below_both HB.out B4.out)
        clear z0 z1 z2 z3 c0 c1 c2 c3 c4 c5
        go_wp2_with (first
          | (at_builtin; refine wpList_append_ev _ rfl _ _ 37 rfl _ _ rfl rfl _ (run_app1 w4 infoU64s rfl _ O4.out 32 [.slice (some ⟨g3, 0, none⟩) R R] _ HX.out (by omega) (by omega) H4.out) ?_; rintro n5 w5 ⟨ow5, g5, -, _⟩; have B5 := Lib.hid (BB4.out.grown g5 BB4.out.size (fun k hk => Nat.le_of_succ_le (O4.out.lt k hk).1)); have KC5 := Lib.hid (block_grown g5 KC4.out (fun e => Nat.not_succ_le_self _ (O4.out.lt _ e.symm).1)); have O5 := Lib.hid ow5; have G5 := Lib.hid g5; clear ow5 g5)
          | fail)
        have S5 : Hid (St8 w5 g3 R s3) := S4.out.frame (G5.out.block g3 S4.out.lt (fun e => by
          have h1 := (HO.out.lt _ e.symm).2
          have h3 : wr.heap.size ≤ g3 := HG3.out
          omega))
        have HG5 : Hid (w.heap.size + 1 ≤ g3) := by
          show _ ≤ _
          have h1 := HG.out
          have h2 := HS.out.lt
          have h3 : wr.heap.size ≤ g3 := HG3.out
          omega
        have HX5 : Hid (X.length = k + 1) := by show _ = _; rw [HXX.out, List.length_append, HXL.out]; rfl
        go_roundw
        case rel => exact ⟨k + 1, g3, s3, X, by omega, rfl, by go_num, HRUN3.out, HV3.out, S5.out, HG5.out, O5.out, HX5.out, B5.out, KC5.out⟩
        case measure => simp [intOf]; omega
    · have hnl : ¬ ((k : Int) < (c.ins.length : Int)) := by omega
      have HFN : Hid (finR c l = (s, true)) := by
        show _ = _
        rw [HFR.out, HRUN.out, show k = c.ins.length by omega, List.drop_length]
        rfl
      have HEND : Hid (errR c l = 0) := by show _ = _; rw [HER.out, HFN.out]; rfl
      obtain ⟨X, hX⟩ : ∃ X, X = xs ++ [stL R s] := ⟨_, rfl⟩
      rw [← hX] at HO
      have HXX := Lib.hid hX
      clear hX
      obtain ⟨ua, uc, rfl⟩ := HO.out.form
      have hxl := HXL.out
      go_wp2_with fail
      go_ret2
      refine ⟨_, by rw [HEND.out]; rfl, ⟨⟨_, _, _, rfl⟩, fun _ => ⟨xs, R, HR.out, ?_, by omega⟩⟩, HB.out⟩
      rw [HFN.out, ← HXX.out]
      exact HO.out
set_option maxRecDepth 20000 in
set_option maxHeartbeats 2000000 in
theorem ref49_Run (S Sl : Nat → Prop) (c : Cd) (p : CdAt) (l : List Int) (a : Option Addr) (ca : Nat) (w : World) (h : CdRd S w c p) (himm : ∀ x ∈ c.ins, 0 ≤ x.imm ∧ x.imm < 18446744073709551616) (hr : Rd (Kd.int .u64) Sl w a ca l) (hl : ∀ x ∈ l, 0 ≤ x ∧ x < 18446744073709551616) :
    Calls Tryz.prog 76 #[cdVal c p, .slice a l.length ca] w fun e w' => ((∃ k : Int, errR c l ≠ 0 ∧ e = .returned (.tuple #[.slice none 0 0, .int .i64 k, .int .i64 (errR c l)])) ∨ (errR c l = 0 ∧ ∃ (sa : Option Addr) (sc R : Nat), c.regs = (R : Int) ∧ e = .returned (.tuple #[.slice sa R sc, .int .i64 0, .int .i64 0]) ∧ Rd (Kd.int .u64) (fun _ => True) w' sa sc (stL R (finR c l).1))) ∧ Below w.heap.size w w' := by
  have CC := Lib.hid (fun W (b : Below w.heap.size w W) => ref48_Check S c p W (h.frame (Same.below b)) himm)
  have CT := Lib.hid (fun W (b : Below w.heap.size w W) => ref49_Trace S Sl c p l a ca W (h.frame (Same.below b)) himm (hr.frame (Same.below b)) hl)
  obtain ⟨ia, ic, oa, oc⟩ := p
  have BW := Lib.hid (below_alloc (Below.refl w.heap.size w) (.cells (cellsC c ia ic oa oc) 25))
  have KC := Lib.hid (heap_alloc_new w (.cells (cellsC c ia ic oa oc) 25))
  have hol := h.out.le
  have hil := h.ins.le
  have hll := hr.le
  clear h hr hl himm
  unfold cdVal
  go_enter Tryz.func76, Tryz.ntmps76
  obtain ⟨z0, z1, z2, z3⟩ := cd_block4 KC.out
  go_wp2_with fail
  refine (CC.out _ BW.out).mono ?_
  rintro e w1 ⟨rfl, b1⟩
  have B1 := Lib.hid (below_both BW.out b1)
  have KC1 := Lib.hid (block_below b1 KC.out)
  clear b1 z0 z1 z2 z3 BW KC CC
  obtain ⟨z0, z1, z2, z3⟩ := cd_block4 KC1.out
  by_cases he : cdErr c = 0
  case neg =>
    have t0 : (cdErr c != 0) = true := by simpa using he
    have HE : Hid (errR c l = cdErr c) := by show _ = _; unfold errR; rw [if_pos he]
    have HZ : Hid (errR c l ≠ 0) := by show _ ≠ _; rw [HE.out]; exact he
    clear he
    go_wp2_with fail
    go_ret3
    exact ⟨.inl ⟨_, HZ.out, by rw [HE.out]; rfl⟩, B1.out⟩
  have t0 : (cdErr c != 0) = false := by simpa using he
  clear he
  go_wp2_with fail
  refine (CT.out _ B1.out).mono ?_
  rintro e w2 ⟨v2, rfl, ⟨⟨va, vm, vc, rfl⟩, hq⟩, b2⟩
  have HQ := Lib.hid hq
  have B2 := Lib.hid (below_both B1.out b2)
  clear b2 hq z0 z1 z2 z3 CT t0
  by_cases he : errR c l = 0
  · have HE := Lib.hid he
    have t0 : (errR c l != 0) = false := by simpa using he
    obtain ⟨xs, R, hR, hO, hxl⟩ := HQ.out he
    obtain ⟨va', vc', hv⟩ := hO.form
    injection hv with hv1 hv2 hv3
    subst hv1 hv2 hv3
    have hel : xs.length < (xs ++ [stL R (finR c l).1]).length := by rw [List.length_append]; simp
    obtain ⟨b, o, cs, rfl, -, hbw, hk, hcell⟩ := hO.rd'.elem hel
    rw [List.getElem_append_right (Nat.le_refl _)] at hk
    simp only [Nat.sub_self, List.getElem_cons_zero] at hk
    obtain ⟨sa, sc, rfl, hrd⟩ := hk
    have HRD : Hid (Rd (Kd.int .u64) (fun _ => True) w2 sa sc (stL R (finR c l).1)) := hrd.mono fun _ _ _ => trivial
    have c0 := hcell 0 _ rfl
    rw [stL_length] at c0
    have hlen : (xs ++ [stL R (finR c l).1]).length = xs.length + 1 := by rw [List.length_append]; rfl
    have HR := Lib.hid hR
    rw [hlen]
    have hsz : (Kd.slice (Kd.int .u64)).sz = 1 := rfl
    rw [hsz, Nat.mul_one, Nat.add_zero] at c0
    clear hO hel hcell hrd hlen hR hsz he HQ
    generalize xs.length = m at *
    go_wp2_with fail
    go_ret3
    exact ⟨.inr ⟨HE.out, sa, sc, R, HR.out, rfl, HRD.out⟩, B2.out⟩
  · have HZ := Lib.hid he
    have t0 : (errR c l != 0) = true := by simpa using he
    clear he HQ
    go_wp2_with fail
    go_ret3
    exact ⟨.inl ⟨_, HZ.out, rfl⟩, B2.out⟩
set_option maxRecDepth 20000 in
set_option maxHeartbeats 2000000 in
theorem ref49_Outs (S Sl : Nat → Prop) (c : Cd) (p : CdAt) (l : List Int) (a : Option Addr) (ca : Nat) (w : World) (h : CdRd S w c p) (ho : c.out.length ≤ 20) (himm : ∀ x ∈ c.ins, 0 ≤ x.imm ∧ x.imm < 18446744073709551616) (hr : Rd (Kd.int .u64) Sl w a ca l) (hl : ∀ x ∈ l, 0 ≤ x ∧ x < 18446744073709551616) :
    Calls Tryz.prog 49 #[cdVal c p, .slice a l.length ca] w fun e w' => ∃ v, e = .returned (.tuple #[v, .int .i64 (errR c l)]) ∧ Own (Kd.int .u64) 48 NoS w' w.heap.size v (outsL c l) ∧ Below w.heap.size w w' := by
  have CX := fun W (b : Below w.heap.size w W) => ref49_Run S Sl c p l a ca W (h.frame (Same.below b)) himm (hr.frame (Same.below b)) hl
  obtain ⟨ia, ic, oa, oc⟩ := p
  have BW := Lib.hid (below_alloc (Below.refl w.heap.size w) (.cells (cellsC c ia ic oa oc) 25))
  have KC := Lib.hid (heap_alloc_new w (.cells (cellsC c ia ic oa oc) 25))
  have HC := Lib.hid h
  have HX := Lib.hid CX
  have hol := h.out.le
  have hil := h.ins.le
  have hll := hr.le
  clear h hr hl himm CX
  unfold cdVal
  go_enter Tryz.func49, Tryz.ntmps49
  obtain ⟨z0, z1, z2, z3⟩ := cd_block4 KC.out
  go_wp2_with fail
  refine (HX.out _ BW.out).mono ?_
  rintro e w2 ⟨hor, b2⟩
  have B2 := Lib.hid (below_both BW.out b2)
  have KC2 := Lib.hid (block_below b2 KC.out)
  clear z0 z1 z2 z3
  rcases hor with ⟨k, hne, rfl⟩ | ⟨he, sa, sc, R, hR, rfl, hrd⟩
  · have HO : Hid (outsL c l = []) := by show _ = _; unfold outsL; rw [if_neg hne]
    have t0 : (errR c l != 0) = true := by simpa using hne
    clear hne b2 HX
    go_wp2_with fail
    go_ret2
    exact ⟨_, rfl, by rw [HO.out]; exact Own.nil _ _ _ _ _, B2.out⟩
  · have HE := Lib.hid he
    have S3 := Lib.hid hrd
    have HRR := Lib.hid hR
    have HCE : Hid (CdOK c) := by
      show CdOK c
      refine cd_ok ?_
      by_cases h0 : cdErr c = 0
      · exact h0
      · unfold errR at he
        rw [if_pos h0] at he
        exact he
    have HO : Hid (outsL c l = c.out.map (fun r => ((finR c l).1 r.toNat : Int))) := by show _ = _; unfold outsL; rw [if_pos he]
    obtain ⟨st, hst⟩ : ∃ st, st = (finR c l).1 := ⟨_, rfl⟩
    rw [← hst] at HO S3
    clear hst
    have hsz := b2.size
    have HSZ := Lib.hid B2.out.size
    clear he hrd hR b2 HX hsz
    obtain ⟨z0, z1, z2, z3⟩ := cd_block4 KC2.out
    go_wp2_with fail
    go_loopw [9, 10] (fun v i wr => ∃ k : Nat, k ≤ c.out.length ∧ i = .int .i64 k ∧ Hid (Own (Kd.int .u64) 48 NoS wr w2.heap.size v ((c.out.take k).map (fun r => (st r.toNat : Int)))) ∧ Hid (Below w2.heap.size w2 wr)) (fun _ i _ => c.out.length - (intOf i).toNat)
    case atStart => exact ⟨0, by omega, rfl, by rw [List.take_zero]; exact Own.nil _ _ _ _ _, Below.refl _ _⟩
    case round =>
      clear z0 z1 z2 z3
      obtain ⟨k, hk, rfl, O4, B4⟩ := hrel
      obtain ⟨z0, z1, z2, z3⟩ := cd_block4 (block_below B4.out KC2.out)
      by_cases hlt : k < c.out.length
      · have hkl : (k : Int) < (c.out.length : Int) := by omega
        obtain ⟨ob, oo, rfl, -, -, hc⟩ := ((HC.out.out.frame (Same.below B2.out)).frame (Same.below B4.out)).vals (by omega) 0
        have d5 := hc k hlt
        rw [getD_at _ hlt] at d5
        have hr := HCE.out.out _ (List.getElem_mem hlt)
        have HT : Hid ((c.out.take (k + 1)).map (fun r => (st r.toNat : Int)) = (c.out.take k).map (fun r => (st r.toNat : Int)) ++ [(st (c.out[k]).toNat : Int)]) := by show _ = _; rw [List.take_succ_eq_append_getElem hlt, List.map_append]; rfl
        have hXl : ((c.out.take k).map (fun r => (st r.toNat : Int))).length ≤ 20 := by rw [List.length_map, List.length_take]; omega
        clear hc
        generalize c.out[k] = r at *
        generalize (c.out.take k).map (fun r => (st r.toNat : Int)) = X at *
        obtain ⟨hr0, hr1⟩ := hr
        obtain ⟨m, rfl⟩ := Int.eq_ofNat_of_zero_le hr0
        rw [Int.toNat_natCast] at HT
        have hrr := HRR.out
        have hmR : m < R := by omega
        have hmR' : (m : Int) < (R : Int) := by omega
        obtain ⟨sb, so, rfl, -, -, hsc⟩ := (S3.out.frame (Same.below B4.out)).vals (by rw [stL_length]; omega) 0
        have s1 := hsc m (by rw [stL_length]; omega)
        rw [getD_at _ (by rw [stL_length]; omega), stL_get _ _ hmR] at s1
        generalize st m = y at *
        clear hr1 hrr hsc
        obtain ⟨a4, c4, rfl⟩ := O4.out.form
        go_wp2_with (first
          | (at_builtin; refine wpList_append_ev _ rfl _ _ 32 rfl _ _ rfl rfl _ (run_app1 wr infoU64 rfl _ O4.out 48 [.int .u64 _] _ rfl (by omega) (by omega) B4.out.size) ?_; rintro n2 w5 ⟨ow2, g2, v2, _⟩; have B5 := Lib.hid (B4.out.grown g2 B4.out.size (fun k hk => (O4.out.lt k hk).1)); have O5 := Lib.hid ow2; clear ow2 g2 v2)
          | fail)
        go_roundw
        case rel => exact ⟨k + 1, by omega, by go_num, by rw [HT.out]; exact O5.out, B5.out⟩
        case measure => simp [intOf]; omega
      · have hnl : ¬ ((k : Int) < (c.out.length : Int)) := by omega
        have h5 := O4.out
        rw [show k = c.out.length by omega, List.take_length, ← HO.out] at h5
        have O5 := Lib.hid h5
        clear h5
        clear hlt hk O4
        go_wp2_with fail
        go_ret2
        exact ⟨_, by rw [HE.out]; rfl, O5.out.mono (fun _ _ h => h) HSZ.out, below_both B2.out B4.out⟩
end Go.Proofs.Sat
