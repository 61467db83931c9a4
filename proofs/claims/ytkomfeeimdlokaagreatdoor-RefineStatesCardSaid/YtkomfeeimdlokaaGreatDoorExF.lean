/- The walks of exec.Run and exec.Outs. -/
import Derived.Test.YtkomfeeimdlokaaGreatDoorExE
set_option linter.unusedVariables false
set_option linter.unusedSimpArgs false
namespace Go.Proofs.Sat
open Go Go.RowKit
/-- What a run of a program from a list of values leaves. -/
def finR (c : Cd) (l : List Int) : (Nat → Nat) × Bool := runN c.width.toNat c.ins (cutL c.width.toNat l)
/-- Its error. -/
def errR (c : Cd) (l : List Int) : Int := if cdErr c ≠ 0 then cdErr c else if (finR c l).2 = true then 0 else 17
/-- The final values of Out. -/
def outsL (c : Cd) (l : List Int) : List Int := if errR c l = 0 then c.out.map (fun r => ((finR c l).1 r.toNat : Int)) else []
set_option maxRecDepth 20000 in
set_option maxHeartbeats 2000000 in
theorem exec_Run (S Sl : Nat → Prop) (c : Cd) (p : CdAt) (l : List Int) (a : Option Addr) (ca : Nat) (w : World) (hK : IsaT w) (h : CdRd S w c p) (himm : ∀ x ∈ c.ins, 0 ≤ x.imm ∧ x.imm < 18446744073709551616) (hr : Rd (Kd.int .u64) Sl w a ca l) (hl : ∀ x ∈ l, 0 ≤ x ∧ x < 18446744073709551616) :
    Calls Tryz.prog 33 #[cdVal c p, .slice a l.length ca] w fun e w' => (∃ k : Int, (errR c l ≠ 0 ∧ e = .returned (.tuple #[.slice none 0 0, .int .i64 k, .int .i64 (errR c l)])) ∨ (errR c l = 0 ∧ ∃ (g R : Nat), c.regs = (R : Int) ∧ e = .returned (.tuple #[.slice (some ⟨g, 0, none⟩) R R, .int .i64 0, .int .i64 0]) ∧ w.heap.size ≤ g ∧ St8 w' g R (finR c l).1)) ∧ Below w.heap.size w w' := by
  obtain ⟨ia, ic, oa, oc⟩ := p
  have BW := Lib.hid (below_alloc (Below.refl w.heap.size w) (.cells (cellsC c ia ic oa oc) 25))
  have KC := Lib.hid (heap_alloc_new w (.cells (cellsC c ia ic oa oc) 25))
  have HC := Lib.hid (h.mono (S' := fun b => b < w.heap.size) (fun b hb _ => hb))
  have HR := Lib.hid hr
  have HL := Lib.hid hl
  have HIM := Lib.hid himm
  have hil := h.ins.le
  have hol := h.out.le
  have hll := hr.le
  have CK := Lib.hid (fun W (b : Below w.heap.size w W) => isa_Check _ c ⟨ia, ic, oa, oc⟩ W (hK.below b) (HC.out.frame (Same.below b)))
  clear h hr hl himm
  unfold cdVal
  go_enter Tryz.func33, Tryz.ntmps33
  obtain ⟨z0, z1, z2, z3⟩ := cd_block4 KC.out
  by_cases hce : cdErr c = 0
  case neg =>
    have HE : Hid (errR c l = cdErr c) := by show _ = _; unfold errR; rw [if_pos hce]
    have HNE := Lib.hid hce
    have t0 : (cdErr c != 0) = true := by simpa using hce
    generalize cdErr c = ce at *
    generalize cdIx c = ci at *
    clear hce
    go_wp2_with fail
    refine (CK.out _ BW.out).mono ?_
    rintro e w2 ⟨rfl, b2⟩
    have B2 := Lib.hid (below_both BW.out b2)
    clear b2 z0 z1 z2 z3
    go_wp2_with fail
    go_ret3
    exact ⟨⟨ci, .inl ⟨by rw [HE.out]; exact HNE.out, by rw [HE.out]; rfl⟩⟩, B2.out⟩
  have HOK := Lib.hid (cd_ok hce)
  have h1 := HOK.out.w1
  have h2 := HOK.out.w2
  have h3 := HOK.out.r1
  have h4 := HOK.out.r2
  obtain ⟨n, hn⟩ : ∃ n : Nat, c.width = (n : Int) := ⟨c.width.toNat, by omega⟩
  obtain ⟨R, hR⟩ : ∃ R : Nat, c.regs = (R : Int) := ⟨c.regs.toNat, by omega⟩
  have HN := Lib.hid hn
  have HRR := Lib.hid hR
  have HFIN : Hid (finR c l = runN n c.ins (cutL n l)) := by show _ = _; unfold finR; rw [hn, Int.toNat_natCast]
  have HERR : Hid (errR c l = if (finR c l).2 = true then 0 else 17) := by show _ = _; unfold errR; rw [if_neg (by rw [hce]; simp)]
  rw [hce] at CK
  have hn1 : 1 ≤ n := by omega
  have hn2 : n ≤ 64 := by omega
  have hR8 : R ≤ 8 := by omega
  clear hce h1 h2 h3 h4 hn hR
  have CWD := Lib.hid (fun W (b : Below w.heap.size w W) => exec_words _ n R l a ca W (HR.out.frame (Same.below b)) HL.out hn1 hn2 hR8)
  have hmf : ∀ (fn : Fn) (first cap : Array Value) (w : World), (Instr.makeFunc fn first cap).run Tryz.prog w = .ok (.func fn first cap) w := fun _ _ _ _ => rfl
  go_wp2_with fail
  refine (CK.out _ BW.out).mono ?_
  rintro e w2 ⟨rfl, b2⟩
  have B2 := Lib.hid (below_both BW.out b2)
  have KC2 := Lib.hid (block_below b2 KC.out)
  clear b2 z0 z1 z2 z3 CK BW KC
  obtain ⟨z0, z1, z2, z3⟩ := cd_block4 KC2.out
  rw [HN.out] at z0
  rw [HRR.out] at z1
  go_wp2_with fail
  refine (CWD.out _ B2.out).mono ?_
  rintro e w3 ⟨g, rfl, hg, s3, b3⟩
  have B3 := Lib.hid (below_both B2.out b3)
  have KC3 := Lib.hid (block_below b3 KC2.out)
  have S3 := Lib.hid s3
  have HG3 := Lib.hid hg
  have HG2 := Lib.hid B2.out.size
  have HGL := Lib.hid s3.lt
  clear b3 hg s3 z0 z1 z2 z3 CWD
  have hlt2 : w.heap.size < w2.heap.size := (Array.getElem?_eq_some_iff.1 KC2.out).1
  have HLT2 := Lib.hid hlt2
  clear hlt2
  have B4 := Lib.hid (below_alloc (below_alloc B3.out (.cells #[.slice (some ⟨g, 0, none⟩) R R] 32)) (.cells #[.int .i64 0] 3))
  have KC4 := Lib.hid (block_alloc (block_alloc KC3.out (.cells #[.slice (some ⟨g, 0, none⟩) R R] 32)) (.cells #[.int .i64 0] 3))
  have KS4 := Lib.hid (block_alloc (heap_alloc_new w3 (.cells #[.slice (some ⟨g, 0, none⟩) R R] 32)) (.cells #[.int .i64 0] 3))
  have KA4 := Lib.hid (block_at1 w3 (.cells #[.slice (some ⟨g, 0, none⟩) R R] 32) (.cells #[.int .i64 0] 3))
  have S4 := Lib.hid (S3.out.below (below_alloc (below_alloc (Below.refl w3.heap.size w3) (.cells #[.slice (some ⟨g, 0, none⟩) R R] 32)) (.cells #[.int .i64 0] 3)))
  go_wp2_with fail
  generalize (w3.alloc (.cells #[.slice (some ⟨g, 0, none⟩) R R] 32)).alloc (.cells #[.int .i64 0] 3) = W4 at *
  generalize w3.heap.size = P at *
  have hw4 : P + 1 < W4.heap.size := (Array.getElem?_eq_some_iff.1 KA4.out).1
  have HW4 := Lib.hid hw4
  clear hw4
  have CRUN : Hid (Calls Tryz.prog 52 #[.pointer (some ⟨P + 1, 0, none⟩), .pointer (some ⟨w.heap.size, 0, none⟩), .pointer (some ⟨P, 0, none⟩)] (W4.alloc (.cells #[.bool false] 4)) fun e w' => ((((finR c l).2 = true ∧ St8 w' g R (finR c l).1 ∧ (∃ k : Nat, w'.heap[P + 1]? = some (.cells #[.int .i64 (k : Int)] 3 (0, 0))) ∧ But2 g (P + 1) (W4.alloc (.cells #[.bool false] 4)) w') ∧ e = .returned (.tuple #[])) ∨ (((finR c l).2 = false ∧ (∃ k : Nat, w'.heap[P + 1]? = some (.cells #[.int .i64 (k : Int)] 3 (0, 0))) ∧ But2 g (P + 1) (W4.alloc (.cells #[.bool false] 4)) w') ∧ e = .panicked [{ v := .iface 99 (.agg #[]), recovered := false }])) ∧ w'.heap[W4.heap.size]? = some (.cells #[.bool false] 4 (0, 0))) := by
    have hg1 := HG3.out
    have hg2 := HLT2.out
    have hg3 := HGL.out
    have hg4 := HW4.out
    refine (exec_Run1 (fun b => b < w.heap.size) c ia ic oa oc n R g (P + 1) w.heap.size P (cutL n l) _ HOK.out HN.out HRR.out HIM.out (HC.out.ins.frame (Same.below (below_alloc B4.out _))) (fun b hb => ⟨by omega, by omega⟩) (S4.out.below (below_alloc (Below.refl _ _) _)) (fun i _ => cutL_lt n l i) (block_alloc KA4.out _) (block_alloc KC4.out _) (block_alloc KS4.out _) ⟨by omega, by omega, by omega, by omega, by omega⟩).mono ?_
    rintro e w' ⟨hp, ⟨k, hk, hka⟩, hbut⟩
    rw [HFIN.out]
    refine ⟨?_, hbut.block (heap_alloc_new W4 _) (by omega) (by omega)⟩
    rcases hp with ⟨q1, q2, q3⟩ | ⟨q1, q2⟩
    · exact .inl ⟨⟨q1, q3, ⟨k, hka⟩, hbut⟩, q2⟩
    · exact .inr ⟨⟨q1, ⟨k, hka⟩, hbut⟩, q2⟩
  refine (exec_guarded 52 #[.pointer (some ⟨P + 1, 0, none⟩), .pointer (some ⟨w.heap.size, 0, none⟩), .pointer (some ⟨P, 0, none⟩)] W4 _ _ CRUN.out rfl).mono ?_
  rintro e w5 ⟨b, w1, rfl, hb, hbut⟩
  have hg1 := HG3.out
  have hg2 := HLT2.out
  have hg3 := HGL.out
  have hg4 := HW4.out
  have hg5 := B4.out.size
  cases b with
  | true =>
    obtain ⟨q1, q2, ⟨k, q3⟩, q4⟩ := hb
    have B5 : Hid (Below w.heap.size w w5) := ((below_alloc B4.out _).trans (q4.below (by omega) (by omega))).trans (hbut.below (by omega))
    have KS5 := Lib.hid (hbut.block (q4.block (block_alloc KS4.out _) (by omega) (by omega)) (by omega))
    have S5 : Hid (St8 w5 g R (finR c l).1) := hbut.block q2 (by omega)
    have HE : Hid (errR c l = 0) := by show _ = _; rw [HERR.out, if_pos q1]
    have HGW : Hid (w.heap.size ≤ g) := by show _ ≤ _; omega
    have sl := cell_of_block KS5.out
    clear q1 q2 q3 q4 hbut hg1 hg2 hg3 hg4 hg5
    go_wp2_with fail
    go_ret3
    exact ⟨⟨0, .inr ⟨HE.out, g, R, HRR.out, rfl, HGW.out, S5.out⟩⟩, B5.out⟩
  | false =>
    obtain ⟨q1, ⟨k, q3⟩, q4⟩ := hb
    have B5 : Hid (Below w.heap.size w w5) := ((below_alloc B4.out _).trans (q4.below (by omega) (by omega))).trans (hbut.below (by omega))
    have KA5 := Lib.hid (hbut.block q3 (by omega))
    have HE : Hid (errR c l = 17) := by show _ = _; rw [HERR.out, if_neg (by rw [q1]; simp)]
    have a5 := cell_of_block KA5.out
    clear q1 q3 q4 hbut hg1 hg2 hg3 hg4 hg5
    go_wp2_with fail
    go_quiet (fail)
    have DD : Drawn w5 (w5.drewN nq) := ⟨nq, rfl⟩
    go_wp2_with fail
    go_ret3
    exact ⟨⟨k, .inl ⟨by rw [HE.out]; decide, by rw [HE.out]; rfl⟩⟩, below_both B5.out (DD.below _)⟩
set_option maxRecDepth 20000 in
set_option maxHeartbeats 2000000 in
theorem exec_Outs (S Sl : Nat → Prop) (c : Cd) (p : CdAt) (l : List Int) (a : Option Addr) (ca : Nat) (w : World) (hK : IsaT w) (h : CdRd S w c p) (ho : c.out.length ≤ 20) (himm : ∀ x ∈ c.ins, 0 ≤ x.imm ∧ x.imm < 18446744073709551616) (hr : Rd (Kd.int .u64) Sl w a ca l) (hl : ∀ x ∈ l, 0 ≤ x ∧ x < 18446744073709551616) :
    Calls Tryz.prog 20 #[cdVal c p, .slice a l.length ca] w fun e w' => ∃ v, e = .returned (.tuple #[v, .int .i64 (errR c l)]) ∧ Own (Kd.int .u64) 48 NoS w' w.heap.size v (outsL c l) ∧ Below w.heap.size w w' := by
  have CX := fun W (b : Below w.heap.size w W) => exec_Run S Sl c p l a ca W (hK.below b) (h.frame (Same.below b)) himm (hr.frame (Same.below b)) hl
  obtain ⟨ia, ic, oa, oc⟩ := p
  have BW := Lib.hid (below_alloc (Below.refl w.heap.size w) (.cells (cellsC c ia ic oa oc) 25))
  have KC := Lib.hid (heap_alloc_new w (.cells (cellsC c ia ic oa oc) 25))
  have HC := Lib.hid h
  have HX := Lib.hid CX
  have hol := h.out.le
  have hil := h.ins.le
  have hll := hr.le
  clear h hr hl himm CX
  unfold cdVal
  go_enter Tryz.func20, Tryz.ntmps20
  obtain ⟨z0, z1, z2, z3⟩ := cd_block4 KC.out
  go_wp2_with fail
  refine (HX.out _ BW.out).mono ?_
  rintro e w2 ⟨⟨k, hor⟩, b2⟩
  have B2 := Lib.hid (below_both BW.out b2)
  have KC2 := Lib.hid (block_below b2 KC.out)
  clear z0 z1 z2 z3
  rcases hor with ⟨hne, rfl⟩ | ⟨he, g, R, hR, rfl, hg, s3⟩
  · have HO : Hid (outsL c l = []) := by show _ = _; unfold outsL; rw [if_neg hne]
    have t0 : (errR c l != 0) = true := by simpa using hne
    clear hne b2 HX
    go_wp2_with fail
    go_ret2
    exact ⟨_, rfl, by rw [HO.out]; exact Own.nil _ _ _ _ _, B2.out⟩
  · have HE := Lib.hid he
    have S3 := Lib.hid s3
    have HG := Lib.hid s3.lt
    have HRR := Lib.hid hR
    have HCE : Hid (CdOK c) := by
      show CdOK c
      refine cd_ok ?_
      by_cases h0 : cdErr c = 0
      · exact h0
      · unfold errR at he
        rw [if_pos h0] at he
        exact he
    have HO : Hid (outsL c l = c.out.map (fun r => ((finR c l).1 r.toNat : Int))) := by show _ = _; unfold outsL; rw [if_pos he]
    obtain ⟨st, hst⟩ : ∃ st, st = (finR c l).1 := ⟨_, rfl⟩
    rw [← hst] at HO S3
    clear hst
    have hsz := b2.size
    have HSZ := Lib.hid B2.out.size
    clear he s3 hR b2 HX hsz
    obtain ⟨z0, z1, z2, z3⟩ := cd_block4 KC2.out
    go_wp2_with fail
    go_loopw [9, 25] (fun v i wr => ∃ k : Nat, k ≤ c.out.length ∧ i = .int .i64 k ∧ Hid (Own (Kd.int .u64) 48 NoS wr w2.heap.size v ((c.out.take k).map (fun r => (st r.toNat : Int)))) ∧ Hid (Below w2.heap.size w2 wr)) (fun _ i _ => c.out.length - (intOf i).toNat)
    case atStart => exact ⟨0, by omega, rfl, by rw [List.take_zero]; exact Own.nil _ _ _ _ _, Below.refl _ _⟩
    case round =>
      clear z0 z1 z2 z3
      obtain ⟨k, hk, rfl, O4, B4⟩ := hrel
      by_cases hlt : k < c.out.length
      · have hkl : (k : Int) < (c.out.length : Int) := by omega
        obtain ⟨ob, oo, rfl, -, -, hc⟩ := ((HC.out.out.frame (Same.below B2.out)).frame (Same.below B4.out)).vals (by omega) 0
        have d5 := hc k hlt
        rw [getD_at _ hlt] at d5
        have hr := HCE.out.out _ (List.getElem_mem hlt)
        have HT : Hid ((c.out.take (k + 1)).map (fun r => (st r.toNat : Int)) = (c.out.take k).map (fun r => (st r.toNat : Int)) ++ [(st (c.out[k]).toNat : Int)]) := by show _ = _; rw [List.take_succ_eq_append_getElem hlt, List.map_append]; rfl
        have hXl : ((c.out.take k).map (fun r => (st r.toNat : Int))).length ≤ 20 := by rw [List.length_map, List.length_take]; omega
        clear hc
        generalize c.out[k] = r at *
        generalize (c.out.take k).map (fun r => (st r.toNat : Int)) = X at *
        obtain ⟨hr0, hr1⟩ := hr
        obtain ⟨m, rfl⟩ := Int.eq_ofNat_of_zero_le hr0
        rw [Int.toNat_natCast] at HT
        have hrr := HRR.out
        have hmR : m < R := by omega
        have hmR' : (m : Int) < (R : Int) := by omega
        have S4 := S3.out.below B4.out
        obtain ⟨s1, -, -⟩ := S4.at hmR
        generalize st m = y at *
        clear hr1 hrr S4
        obtain ⟨a4, c4, rfl⟩ := O4.out.form
        go_wp2_with (first
          | (at_builtin; refine wpList_append_ev _ rfl _ _ 32 rfl _ _ rfl rfl _ (run_app1 wr infoU64 rfl _ O4.out 48 [.int .u64 _] _ rfl (by omega) (by omega) B4.out.size) ?_; rintro n2 w5 ⟨ow2, g2, v2, _⟩; have B5 := Lib.hid (B4.out.grown g2 B4.out.size (fun k hk => (O4.out.lt k hk).1)); have O5 := Lib.hid ow2; clear ow2 g2 v2)
          | fail)
        go_roundw
        case rel => exact ⟨k + 1, by omega, by go_num, by rw [HT.out]; exact O5.out, B5.out⟩
        case measure => simp [intOf]; omega
      · have hnl : ¬ ((k : Int) < (c.out.length : Int)) := by omega
        have h5 := O4.out
        rw [show k = c.out.length by omega, List.take_length, ← HO.out] at h5
        have O5 := Lib.hid h5
        clear h5
        clear hlt hk O4
        go_wp2_with fail
        go_ret2
        exact ⟨_, by rw [HE.out]; rfl, O5.out.mono (fun _ _ h => h) HSZ.out, below_both B2.out B4.out⟩
end Go.Proofs.Sat
