/- The walk of live.Window. -/
import Derived.Test.YthffbnfbjjnabaaDoorLvE
import Derived.Test.YthffbnfbjjnabaaDoorOps4
import Derived.IntWalk
set_option linter.unusedVariables false
set_option linter.unusedSimpArgs false
namespace Go.Proofs.Sat
open Go Go.RowKit
/-- Does one of the instructions define a register? -/
def defsAny (l : List In) (k : Nat) : Bool := l.any fun x => defsI x && decide (x.dst = (k : Int))
theorem defsAny_snoc (l : List In) (x : In) (k : Nat) : defsAny (l ++ [x]) k = (defsAny l k || (defsI x && decide (x.dst = (k : Int)))) := by simp [defsAny]
def winIns (c : Cd) (f n : Nat) : List In := (c.ins.drop f).take n
def winOut (c : Cd) (f n : Nat) : Nat → Bool := fun k => stateR c.out (c.ins.drop (f + n)) k && defsAny (winIns c f n) k
def winCd (c : Cd) (f n : Nat) : Cd := { c with ins := winIns c f n, out := regsK (winOut c f n) 8 }
def winC (c : Cd) (f n : Int) : Cd := if winErr c f n = 0 then winCd c f.toNat n.toNat else cd0
theorem winErr_zero {c : Cd} {f n : Int} (h : winErr c f n = 0) : cdErr c = 0 ∧ 0 ≤ f ∧ 0 ≤ n ∧ f + n ≤ c.ins.length := by
  unfold winErr at h
  by_cases h1 : cdErr c ≠ 0
  · rw [if_pos h1] at h; exact absurd h h1
  rw [if_neg h1] at h
  by_cases h2 : f < 0 ∨ n < 0 ∨ (c.ins.length : Int) < n ∨ (c.ins.length : Int) - n < f
  · rw [if_pos h2] at h; cases h
  exact ⟨by simpa using h1, by omega, by omega, by omega⟩
def in0 : In := ⟨0, 0, 0, 0, 0, 0⟩
theorem run_mk_in (m : Nat) (hm : m ≤ 1000000) : ∃ MC : Array Value, MC.size = m * 6 ∧ (∀ S w, Elems kIn S w MC.toList (List.replicate m in0)) ∧ ∀ W : World, (Instr.makeSlice 22 (.int .i64 (m : Int)) (.int .i64 (m : Int))).run Tryd.prog W = .ok (.slice (some ⟨W.heap.size, 0, none⟩) m m) (W.alloc (.cells MC 54)) := by
  obtain ⟨i, hi, h2, h3, h4⟩ := info_parts infoIn.hi
  refine ⟨madeCells (Value.agg #[.int .i64 0, .int .i64 0, .int .i64 0, .int .i64 0, .int .i64 0, .int .u64 0]).cells (m * 6), size_madeCells _ _, fun S w => elems_made (d := kIn) (x0 := in0) rfl (by decide) m, fun W => ?_⟩
  have hb : (i.bytes : Int) * (m : Int) ≤ 281474976710656 := by rw [h4]; omega
  have hr := run_make (P := Tryd.prog) W 22 54 i _ infoIn.ht hi h2 .i64 .i64 m m (by omega) (Int.le_refl _) hb (by omega)
  rw [h3] at hr
  simpa using hr
theorem own_made {W : World} {MC : Array Value} {m g base : Nat} (h1 : MC.size = m * 6) (h2 : ∀ S w, Elems kIn S w MC.toList (List.replicate m in0)) (hm : m ≤ 1000000) (hg : W.heap[g]? = some (.cells MC 54 (0, 0))) (hb : base ≤ g) : Own kIn 54 NoS W base (.slice (some ⟨g, 0, none⟩) m m) (List.replicate m in0) :=
  ⟨MC.toList, ⟨by simp [h1]; rfl, .inr ⟨g, m, MC, by simp, hb, hg, by simp, by simp [maxLen]; omega, by rw [h1]; rfl, by rw [List.length_replicate]; exact List.take_of_length_le (by rw [Array.length_toList, h1]; exact Nat.le_refl _)⟩⟩, h2 _ _⟩
set_option maxRecDepth 20000 in
set_option maxHeartbeats 4000000 in
theorem live_Window (S : Nat → Prop) (c : Cd) (p : CdAt) (f n : Int) (w : World) (hK : IsaT w) (h : CdRd S w c p) (hf : -9223372036854775808 ≤ f ∧ f ≤ 9223372036854775807) (hn : -9223372036854775808 ≤ n ∧ n ≤ 9223372036854775807) : Calls Tryd.prog 21 #[cdVal c p, .int .i64 f, .int .i64 n] w fun e w' => ∃ p', e = .returned (.tuple #[cdVal (winC c f n) p', .int .i64 (winErr c f n)]) ∧ CdRd (fun _ => True) w' (winC c f n) p' ∧ Below w.heap.size w w' := by
  obtain ⟨ia, ic, oa, oc⟩ := p
  have BW := Lib.hid (below_alloc (below_alloc (Below.refl w.heap.size w) (.cells (cellsC c ia ic oa oc) 25)) (.cells (cellsC cd0 none 0 none 0) 25))
  have KC := Lib.hid (block_alloc (heap_alloc_new w (.cells (cellsC c ia ic oa oc) 25)) (.cells (cellsC cd0 none 0 none 0) 25))
  have KZ := Lib.hid (block_at1 w (.cells (cellsC c ia ic oa oc) 25) (.cells (cellsC cd0 none 0 none 0) 25))
  have HC := Lib.hid h
  have HI : Hid (Rd kIn S w ia ic c.ins) := h.ins
  have hil := h.ins.le
  have hicap := h.ins.1
  unfold cdVal
  go_enter Tryd.func21, Tryd.ntmps21
  go_wp2_with fail
  refine (live_refused S c ⟨ia, ic, oa, oc⟩ f n _ (hK.below BW.out) (h.frame (Same.below BW.out)) hf hn).mono ?_
  rintro e w2 ⟨rfl, b2⟩
  have B2 := Lib.hid (below_both BW.out b2)
  have KC2 := Lib.hid (block_below b2 KC.out)
  have KZ2 := Lib.hid (block_below b2 KZ.out)
  have HZ2 : Hid (w.heap.size + 2 ≤ w2.heap.size) := (Array.getElem?_eq_some_iff.1 KZ2.out).1
  clear b2 h
  by_cases he : winErr c f n = 0
  case neg =>
    have t0 : (winErr c f n != 0) = true := by simpa using he
    have HRM : Hid (winC c f n = cd0) := by show _ = _; unfold winC; rw [if_neg he]
    clear he
    obtain ⟨y0, y1, y2, y3⟩ := cd_block4 KZ2.out
    have zf : ∀ i, w2.frozen? ⟨w.heap.size + 1, i, none⟩ = false := fun i => frozen_of_block KZ2.out
    go_wp2_with fail
    refine bodyPost_ret_block2 (cs := cellsC cd0 none 0 none 0) (w.heap.size + 1) (0, 0) _ rfl rfl rfl (four_set' KZ2.out _ _ _ _) Tryd.underlying25 rfl (by kernel_rfl) rfl ⟨⟨none, 0, none, 0⟩, by rw [HRM.out]; rfl, ?_, four_below B2.out (by omega) _ _ _ _⟩
    rw [HRM.out]
    exact ⟨Rd.nil _ _ _ _ _ (by decide), Rd.nil _ _ _ _ _ (by decide)⟩
  have t0 : (winErr c f n != 0) = false := by simpa using he
  obtain ⟨hce, hf0, hn0, hfn⟩ := winErr_zero he
  obtain ⟨F, rfl⟩ := Int.eq_ofNat_of_zero_le hf0
  obtain ⟨m, rfl⟩ := Int.eq_ofNat_of_zero_le hn0
  have HRM : Hid (winC c F m = winCd c F m) := by show _ = _; unfold winC; rw [if_pos he, Int.toNat_natCast, Int.toNat_natCast]
  have HER := Lib.hid he
  have HOK := Lib.hid (cd_ok hce)
  have hlen := HOK.out.len
  have hFm : F + m ≤ c.ins.length := by omega
  have hwl : (winIns c F m).length = m := by unfold winIns; rw [List.length_take, List.length_drop]; omega
  have HWL := Lib.hid hwl
  clear he hce hf hn hf0 hn0 hfn hwl
  obtain ⟨z0, z1, z2, z3⟩ := cd_block4 KC2.out
  go_upto_region 4 with fail
  go_cut [9] (fun s9 wx => ∃ (g : Nat) (va : Option Addr) (vc : Nat), s9 = .pointer (some ⟨g, 0, none⟩) ∧ Hid (wx.heap[g]? = some (.cells #[.int .i64 c.width, .int .i64 c.regs, .slice va m vc, .slice none 0 0] 25 (0, 0))) ∧ Hid (Own kIn 54 NoS wx w2.heap.size (.slice va m vc) (List.replicate m in0)) ∧ Hid (w2.heap.size ≤ g ∧ ∀ k, (Value.slice va m vc).ownBlock = some k → k ≠ g) ∧ Hid (Below w2.heap.size w2 wx))
  case first =>
    have hm0 : (0 : Int) ≤ (m : Int) := by omega
    obtain ⟨MC, hMC1, hMC2, hmk⟩ := run_mk_in m (by omega)
    have M1 := Lib.hid hMC1
    have M2 := Lib.hid hMC2
    clear hMC1 hMC2
    have z01 : Hid (∀ ob, (w2.alloc ob).cell? ⟨w.heap.size, 0, none⟩ = some (.int .i64 c.width) ∧ (w2.alloc ob).cell? ⟨w.heap.size, 1, none⟩ = some (.int .i64 c.regs)) := fun ob => cd_block (block_alloc KC2.out ob)
    have z02 : Hid (∀ ob ob', ((w2.alloc ob).alloc ob').cell? ⟨w.heap.size, 0, none⟩ = some (.int .i64 c.width) ∧ ((w2.alloc ob).alloc ob').cell? ⟨w.heap.size, 1, none⟩ = some (.int .i64 c.regs)) := fun ob ob' => cd_block (block_alloc (block_alloc KC2.out ob) ob')
    go_region_held3 (fun w' => w'.cell? ⟨w.heap.size, 0, none⟩ = some (.int .i64 c.width) ∧ w'.cell? ⟨w.heap.size, 1, none⟩ = some (.int .i64 c.regs)) (first | exact ⟨z0, z1⟩ | exact z01.out _ | exact z02.out _ _) (fail)
    all_goals
      go_wp2_with fail
      go_meet
      case rel =>
        first
        | (refine ⟨w2.heap.size + 1, some ⟨w2.heap.size, 0, none⟩, m, rfl, ?_, ?_, ?_, ?_⟩
           · exact Lib.hid (block_at1 w2 _ _)
           · exact Lib.hid (Own.drewN (own_made M1.out M2.out (by omega) (block_alloc (heap_alloc_new w2 _) _) (Nat.le_refl _)) 1)
           · exact Lib.hid ⟨by omega, fun k hk => by have e : some w2.heap.size = some k := hk
                                                     injection e with e
                                                     subst e
                                                     exact Nat.ne_of_lt (Nat.lt_succ_self _)⟩
           · exact Lib.hid (below_drewN (below_alloc (below_alloc (Below.refl _ _) _) _) 1))
        | (refine ⟨w2.heap.size, some ⟨w2.heap.size + 1, 0, none⟩, m, rfl, ?_, ?_, ?_, ?_⟩
           · exact Lib.hid (block_alloc (heap_alloc_new w2 _) _)
           · exact Lib.hid (Own.drewN (own_made M1.out M2.out (by omega) (block_at1 w2 _ _) (Nat.le_succ _)) 1)
           · exact Lib.hid ⟨by omega, fun k hk => by have e : some (w2.heap.size + 1) = some k := hk
                                                     injection e with e
                                                     subst e
                                                     exact (Nat.ne_of_lt (Nat.lt_succ_self _)).symm⟩
           · exact Lib.hid (below_drewN (below_alloc (below_alloc (Below.refl _ _) _) _) 1))
  case rest =>
    obtain ⟨g, va, vc, rfl, KG3, O3, HG3, b3⟩ := hcut
    have B3 := Lib.hid (below_both B2.out b3.out)
    have KC3 := Lib.hid (block_below b3.out KC2.out)
    have KZ3 := Lib.hid (block_below b3.out KZ2.out)
    have HGl : Hid (g < wc.heap.size) := (Array.getElem?_eq_some_iff.1 KG3.out).1
    clear b3 z0 z1 z2 z3
    obtain ⟨w3, hw3⟩ : ∃ w3, w3 = wc := ⟨_, rfl⟩
    subst hw3
    obtain ⟨A', hcut, hA⟩ := cut_mid kIn infoIn rfl ia c.ins.length ic F m (F : Int) ((F : Int) + (m : Int)) rfl rfl (by omega)
    have HA := Lib.hid (hA S w3 c.ins hFm (HI.out.frame (Same.below B3.out)))
    clear hA
    have hsum : IntKind.i64.wrap ((F : Int) + (m : Int)) = (F : Int) + (m : Int) := IntWalk.i64_in _ (by omega)
    go_upto_region 5 with fail
    go_cut [] (fun wx => Hid (wx.heap[g]? = some (.cells #[.int .i64 c.width, .int .i64 c.regs, .slice va m vc, .slice none 0 0] 25 (0, 0))) ∧ Hid (Own kIn 54 NoS wx w2.heap.size (.slice va m vc) (winIns c F m)) ∧ Hid (wx.heap[w.heap.size]? = some (.cells (cellsC c ia ic oa oc) 25 (0, 0))) ∧ Hid (wx.heap[w.heap.size + 1]? = some (.cells (cellsC cd0 none 0 none 0) 25 (0, 0))) ∧ Hid (Below w.heap.size w wx))
    case first =>
      obtain ⟨z0, z1, z2, z3⟩ := cd_block4 KC3.out
      obtain ⟨q0, q1, q2, q3⟩ := cd_block4 KG3.out
      have HRL : Hid ((List.replicate m in0).length = m) := List.length_replicate
      have HLW : Hid (winIns c F m = (c.ins.drop F).take m) := rfl
      have hcap := Lib.hid hcut
      go_region_law
        (first
        | ((with_reducible refine gate_s (.tmp 32) (.tmp 39) rfl ?_)
           refine step_copy_ev _ rfl (.tmp 32) (.tmp 39) 22 22 rfl _ _ rfl rfl _ (run_cpn' (d := kIn) w3.drew infoIn rfl _ (O3.out.drewN 1) A' m (ic - F) HWL.out (HA.out.frame (Same.drewN _ w3 1)) (by rw [HRL.out]; exact HWL.out) kIn_any) ?_
           rintro n6 w6 ⟨ow6, g6⟩
           have O6 := Lib.hid ow6
           have G6 := Lib.hid g6
           clear ow6 g6)
        | fail)
      all_goals
        go_wp2_with fail
        go_meet
        case rel =>
          refine ⟨?_, O6.out, ?_, ?_, ?_⟩
          · exact Lib.hid (block_grown G6.out KG3.out fun e => HG3.out.2 g e.symm rfl)
          · exact Lib.hid (block_grown G6.out KC3.out fun e => by have := O3.out.lt _ e.symm; have := HZ2.out; omega)
          · exact Lib.hid (block_grown G6.out KZ3.out fun e => by have := O3.out.lt _ e.symm; have := HZ2.out; omega)
          · exact Lib.hid ((below_drewN B3.out 1).grown G6.out (below_drewN B3.out 1).size fun k hk => by have := O3.out.lt _ hk; have := HZ2.out; omega)
    case rest =>
      obtain ⟨KG6, O6, KC6, KZ6, B6⟩ := hcut
      obtain ⟨w6, hw6⟩ : ∃ w6, w6 = wc := ⟨_, rfl⟩
      subst hw6
      clear hsum HA
      obtain ⟨D, hD⟩ : ∃ D, D = F + m := ⟨_, rfl⟩
      have HDD := Lib.hid hD
      have hsum : IntKind.i64.wrap ((F : Int) + (m : Int)) = (D : Int) := by rw [IntWalk.i64_in _ (by omega)]; omega
      have hDl : D ≤ c.ins.length := by omega
      clear hD
      obtain ⟨z0, z1, z2, z3⟩ := cd_block4 KC6.out
      have CS := Lib.hid (live_states S c ⟨ia, ic, oa, oc⟩ w6 (hK.below B6.out) (HC.out.frame (Same.below B6.out)) HOK.out)
      go_wp2_with fail
      refine CS.out.mono ?_
      rintro e w7 ⟨gs, rfl, hgs, G7, b7⟩
      have B7 := Lib.hid (below_both B6.out b7)
      have KG7 := Lib.hid (block_below b7 KG6.out)
      have KZ7 := Lib.hid (block_below b7 KZ6.out)
      have O7 := Lib.hid (O6.out.below b7)
      have f := G7.cells (i := D) (by omega)
      obtain ⟨f0, f1, f2, f3, f4, f5, f6, f7⟩ := f
      have hD0 : (0 : Int) ≤ (D : Int) := by omega
      have hD1 : (D : Int) < ((c.ins.length + 1 : Nat) : Int) := by omega
      clear b7 z0 z1 z2 z3 G7
      generalize hs : stateR c.out (c.ins.drop D) = s at *
      have HS := Lib.hid hs
      clear hs
      have BT := Lib.hid (below_alloc (below_alloc B7.out (.cells (cellsB s) 58)) (.cells (cellsB fun _ => false) 58))
      have KT := Lib.hid (block_alloc (heap_alloc_new w7 (.cells (cellsB s) 58)) (.cells (cellsB fun _ => false) 58))
      have KU := Lib.hid (block_at1 w7 (.cells (cellsB s) 58) (.cells (cellsB fun _ => false) 58))
      have b67 := Lib.hid (below_alloc (below_alloc (Below.refl w7.heap.size w7) (.cells (cellsB s) 58)) (.cells (cellsB fun _ => false) 58))
      have KGT := Lib.hid (block_below b67.out KG7.out)
      have KZT := Lib.hid (block_below b67.out KZ7.out)
      have OT := Lib.hid (O7.out.below b67.out)
      obtain ⟨q0, q1, q2, q3⟩ := cd_block4 KGT.out
      have HGL7 : Hid (g < w7.heap.size) := (Array.getElem?_eq_some_iff.1 KG7.out).1
      have HZL7 : Hid (w.heap.size + 1 < w7.heap.size) := (Array.getElem?_eq_some_iff.1 KZ7.out).1
      have HOB : Hid (∀ q, (Value.slice va m vc).ownBlock = some q → w2.heap.size ≤ q ∧ q < w7.heap.size) := O7.out.lt
      go_wp2_with fail
      go_loopw [51] (fun i wr => ∃ k : Nat, k ≤ m ∧ i = .int .i64 k ∧ Hid (wr.heap[w7.heap.size + 1]? = some (.cells (cellsB (fun r => s r && defsAny ((winIns c F m).take k) r)) 58 (0, 0))) ∧ Hid (Same (fun b => b ≠ w7.heap.size + 1) ((w7.alloc (.cells (cellsB s) 58)).alloc (.cells (cellsB fun _ => false) 58)) wr) ∧ Hid (Below w.heap.size w wr)) (fun i _ => m - (intOf i).toNat)
      case atStart => exact ⟨0, by omega, rfl, by show _ = _; rw [KU.out]; congr 3; funext r; simp [defsAny], Same.refl _ _, BT.out⟩
      case round =>
        obtain ⟨k, hk, rfl, KU1, HS1, HB⟩ := hrel
        have K10 := Lib.hid ((HS1.out.2 w7.heap.size (Nat.ne_of_lt (Nat.lt_succ_self _)) (Array.getElem?_eq_some_iff.1 KT.out).1).trans KT.out)
        have KG1 := Lib.hid ((HS1.out.2 g (by have := HGL7.out; omega) (Array.getElem?_eq_some_iff.1 KGT.out).1).trans KGT.out)
        have KZ1 := Lib.hid ((HS1.out.2 (w.heap.size + 1) (by have := HZL7.out; omega) (Array.getElem?_eq_some_iff.1 KZT.out).1).trans KZT.out)
        have O1 := Lib.hid (OT.out.same (HS1.out.mono fun b hb => by rcases hb with hb | hb; (· exact hb.elim); (· have := HOB.out b hb.symm; omega)))
        by_cases hlt : k < m
        · have hkl : k < (winIns c F m).length := by rw [HWL.out]; exact hlt
          obtain ⟨b, o, rfl, -, hbw, hat⟩ := in_elem (Own.rd' O1.out) hkl
          obtain ⟨c0, c1, c2, c3, c4, c5⟩ := hat
          have HX := Lib.hid (ins_ok (HOK.out.ins _ (List.mem_of_mem_drop (List.mem_of_mem_take (show (winIns c F m)[k] ∈ (c.ins.drop F).take m from List.getElem_mem hkl)))))
          have HT := Lib.hid (List.take_succ_eq_append_getElem hkl)
          have hr2 := HOK.out.r2
          generalize (winIns c F m)[k] = x at *
          have HDX : Hid (defsI x = true → 0 ≤ x.dst ∧ x.dst < 8) := fun hd => by have := HX.out.2.1 hd; omega
          have B1 := Lib.hid (below_alloc (Below.refl wr.heap.size wr) (.cells (cellsI x) 54))
          have hk0 : (0 : Int) ≤ (k : Int) := by omega
          have hk1 : (k : Int) < (m : Int) := by omega
          clear hkl hr2
          go_wp2_with fail
          refine (isa_Def x _).mono ?_
          rintro e w8 ⟨rfl, b8⟩
          have b18 := Lib.hid (below_both B1.out b8)
          clear b8
          have HB8 := Lib.hid (below_both HB.out b18.out)
          have KU8 := Lib.hid (block_below b18.out KU1.out)
          have K18 := Lib.hid (block_below b18.out K10.out)
          have S8 := Lib.hid (HS1.out.trans (Same.below b18.out))
          cases hdd : defsI x
          · have HE : Hid ((fun r => s r && defsAny ((winIns c F m).take (k + 1)) r) = fun r => s r && defsAny ((winIns c F m).take k) r) := by
              show _ = _
              rw [HT.out]
              funext r
              rw [defsAny_snoc, hdd]
              simp
            clear hdd
            go_wp2_with fail
            go_roundw
            case rel => exact ⟨k + 1, by omega, by go_num, by show _ = _; rw [HE.out]; exact KU8.out, S8.out, HB8.out⟩
            case measure => simp [intOf]; omega
          · have hb := HDX.out hdd
            obtain ⟨hb1, hb2⟩ := hb
            obtain ⟨q, hq⟩ := Int.eq_ofNat_of_zero_le hb1
            have hq8 : q < 8 := by omega
            have HE : Hid ((fun r => s r && defsAny ((winIns c F m).take (k + 1)) r) = updS (fun r => s r && defsAny ((winIns c F m).take k) r) q (s q)) := by
              show _ = _
              rw [HT.out]
              funext r
              rw [defsAny_snoc, hdd, hq]
              unfold updS
              by_cases hr : r = q
              · subst hr; simp
              · have h1 : ¬ ((q : Int) = (r : Int)) := by omega
                have h2 : ¬ ((r : Int) = (q : Int)) := by omega
                simp [h1, h2]
            clear hdd
            obtain ⟨e1, -, -⟩ := set_at K18.out hq8
            obtain ⟨e4, e2, e3⟩ := set_at KU8.out hq8
            have E3 := Lib.hid (e3 (s q))
            clear e3
            rw [hq] at hb1 hb2
            simp only [if_true, hq]
            clear hq
            go_wp2_with fail
            go_roundw
            case rel =>
              refine ⟨k + 1, by omega, by go_num, ?_, ?_, ?_⟩
              · show _ = _
                rw [HE.out]
                exact E3.out
              · exact Lib.hid (S8.out.trans (Same.setCell _ _ (fun b hb => hb)))
              · exact Lib.hid (HB8.out.setCell (by show w.heap.size ≤ w7.heap.size + 1; have := HZL7.out; omega) _)
            case measure => simp [intOf]; omega
        · obtain rfl : k = m := by omega
          have HZZ : Hid ((fun r => s r && defsAny ((winIns c F k).take k) r) = winOut c F k) := by
            show _ = _
            rw [List.take_of_length_le (by rw [HWL.out]; exact Nat.le_refl _)]
            unfold winOut
            rw [← HDD.out, HS.out]
          rw [HZZ.out] at KU1
          have HWC : Hid (winCd c F k = { c with ins := winIns c F k, out := regsK (winOut c F k) 8 }) := rfl
          generalize winOut c F k = z at *
          obtain ⟨f0, f1, f2, f3, f4, f5, f6, f7⟩ := set_cells KU1.out
          go_wp2_with fail
          refine (live_list z wr).mono ?_
          rintro e w9 ⟨v, rfl, o9, b9⟩
          obtain ⟨a9, c9, rfl⟩ := o9.form
          have B9 := Lib.hid (below_both HB.out b9)
          have KG9 := Lib.hid (block_below b9 KG1.out)
          have KZ9 := Lib.hid (block_below b9 KZ1.out)
          have O9 := Lib.hid (O1.out.below b9)
          have OL9 := Lib.hid o9
          clear o9 b9
          clear f0 f1 f2 f3 f4 f5 f6 f7
          have HOZ : Hid (∀ q, (Value.slice a9 (regsK z 8).length c9).ownBlock = some q → wr.heap.size ≤ q) := fun q hq => (OL9.out.lt q hq).1
          have HRS : Hid (w7.heap.size + 2 ≤ wr.heap.size) := by show _ ≤ _; have := (Array.getElem?_eq_some_iff.1 KU1.out).1; omega
          obtain ⟨y0, y1, y2, y3⟩ := cd_block4 KG9.out
          have yf : w9.frozen? ⟨g, 3, none⟩ = false := frozen_of_block KG9.out
          have KG10 : Hid ((w9.setCell ⟨g, 3, none⟩ (.slice a9 (regsK z 8).length c9)).heap[g]? = some (.cells #[.int .i64 c.width, .int .i64 c.regs, .slice va k vc, .slice a9 (regsK z 8).length c9] 25 (0, 0))) := by
            show _ = _
            simp [World.setCell, Array.getElem?_modify, KG9.out]
          have KZ10 : Hid ((w9.setCell ⟨g, 3, none⟩ (.slice a9 (regsK z 8).length c9)).heap[w.heap.size + 1]? = some (.cells (cellsC cd0 none 0 none 0) 25 (0, 0))) := block_far KZ9.out _ (by show w.heap.size + 1 ≠ g; have := HG3.out.1; have := HZ2.out; omega)
          obtain ⟨x0, x1, x2, x3⟩ := cd_block4 KG10.out
          obtain ⟨t0', t1', t2', t3'⟩ := cd_block4 KZ10.out
          have xf : ∀ i, (w9.setCell ⟨g, 3, none⟩ (.slice a9 (regsK z 8).length c9)).frozen? ⟨w.heap.size + 1, i, none⟩ = false := fun i => frozen_of_block KZ10.out
          go_wp2_with fail
          refine bodyPost_ret_block2 (cs := #[.int .i64 c.width, .int .i64 c.regs, .slice va k vc, .slice a9 (regsK z 8).length c9]) (w.heap.size + 1) (0, 0) _ rfl rfl rfl (four_set' KZ10.out _ _ _ _) Tryd.underlying25 rfl (by kernel_rfl) rfl ⟨⟨va, vc, a9, c9⟩, ?_, ?_, ?_⟩
          · rw [HRM.out, HER.out, HWC.out]
            simp only [HWL.out]
            rfl
          · rw [HRM.out, HWC.out]
            have HS3 : Same (fun b => b ≠ g ∧ b ≠ w.heap.size + 1) w9 (((((w9.setCell ⟨g, 3, none⟩ (.slice a9 (regsK z 8).length c9)).setCell ⟨w.heap.size + 1, 0, none⟩ (.int .i64 c.width)).setCell ⟨w.heap.size + 1, 1, none⟩ (.int .i64 c.regs)).setCell ⟨w.heap.size + 1, 2, none⟩ (.slice va k vc)).setCell ⟨w.heap.size + 1, 3, none⟩ (.slice a9 (regsK z 8).length c9)) :=
              (Same.setCell _ _ (fun b hb => hb.1)).trans (four_same (fun b hb => hb.2) _ _ _ _)
            refine ⟨?_, ?_⟩
            · have r := Own.rd' (O9.out.same (HS3.mono fun b hb => by
                rcases hb with hb | hb
                · exact hb.elim
                · have h1 := HOB.out b hb.symm
                  have h2 := HG3.out.2 b hb.symm
                  have h3 := HZ2.out
                  exact ⟨h2, by omega⟩))
              exact r.mono (fun _ _ _ => trivial)
            · have r := Own.rd' (OL9.out.same (HS3.mono fun b hb => by
                rcases hb with hb | hb
                · exact hb.elim
                · have h1 := HOZ.out b hb.symm
                  have h2 := HGL7.out
                  have h3 := HZL7.out
                  have h4 := HRS.out
                  exact ⟨by omega, by omega⟩))
              exact r.mono (fun _ _ _ => trivial)
          · exact four_below (B9.out.setCell (by have := HG3.out.1; have := HZ2.out; show w.heap.size ≤ g; omega) _) (by omega) _ _ _ _
end Go.Proofs.Sat
