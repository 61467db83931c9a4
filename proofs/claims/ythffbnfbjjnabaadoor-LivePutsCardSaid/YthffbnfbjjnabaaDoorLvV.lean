/- The walk of the reference's Window. -/
import Derived.Test.YthffbnfbjjnabaaDoorLvW
import Derived.Test.YthffbnfbjjnabaaDoorLvQ4
set_option linter.unusedVariables false
set_option linter.unusedSimpArgs false
namespace Go.Proofs.Sat
open Go Go.RowKit
theorem regsK_filter (s p : Nat → Bool) (n : Nat) : (regsK s n).filter (fun r => p r.toNat) = regsK (fun k => s k && p k) n := by
  unfold regsK
  rw [List.filter_map, List.filter_filter]
  congr 1
  refine List.filter_congr fun k _ => ?_
  simp [Bool.and_comm]
theorem winIns_take (c : Cd) (F m i : Nat) (h : i < m) (hl : F + i < c.ins.length) : (winIns c F m).take (i + 1) = (winIns c F m).take i ++ [c.ins[F + i]] := by
  have h1 : i < (c.ins.drop F).length := by rw [List.length_drop]; omega
  unfold winIns
  rw [List.take_take, List.take_take, Nat.min_eq_left (by omega), Nat.min_eq_left (by omega), List.take_succ_eq_append_getElem h1, List.getElem_drop]
def keepW (l : List In) (L : List Int) : List Int := L.filter fun r => defsAny l r.toNat
theorem keepW_snoc (l : List In) (L : List Int) (r : Int) : keepW l (L ++ [r]) = if defsAny l r.toNat = true then keepW l L ++ [r] else keepW l L := by
  unfold keepW
  by_cases h : defsAny l r.toNat = true <;> simp [List.filter_append, h]
theorem keepW_len (l : List In) (L : List Int) : (keepW l L).length ≤ L.length := List.length_filter_le _ _
set_option maxRecDepth 20000 in
set_option maxHeartbeats 4000000 in
theorem ref50_Window (S : Nat → Prop) (c : Cd) (p : CdAt) (f n : Int) (w : World) (h : CdRd S w c p) (hf : -9223372036854775808 ≤ f ∧ f ≤ 9223372036854775807) (hn : -9223372036854775808 ≤ n ∧ n ≤ 9223372036854775807) : Calls Tryd.prog 22 #[cdVal c p, .int .i64 f, .int .i64 n] w fun e w' => ∃ p', e = .returned (.tuple #[cdVal (winC c f n) p', .int .i64 (winErr c f n)]) ∧ CdRd (fun _ => True) w' (winC c f n) p' ∧ Below w.heap.size w w' := by
  obtain ⟨ia, ic, oa, oc⟩ := p
  have BW := Lib.hid (below_alloc (below_alloc (Below.refl w.heap.size w) (.cells (cellsC c ia ic oa oc) 25)) (.cells (cellsC cd0 none 0 none 0) 25))
  have KC := Lib.hid (block_alloc (heap_alloc_new w (.cells (cellsC c ia ic oa oc) 25)) (.cells (cellsC cd0 none 0 none 0) 25))
  have KZ := Lib.hid (block_at1 w (.cells (cellsC c ia ic oa oc) 25) (.cells (cellsC cd0 none 0 none 0) 25))
  have HC := Lib.hid h
  have HI : Hid (Rd kIn S w ia ic c.ins) := h.ins
  have hil := h.ins.le
  have hicap := h.ins.1
  unfold cdVal
  go_enter Tryd.func22, Tryd.ntmps22
  go_wp2_with fail
  refine (ref50_refused S c ⟨ia, ic, oa, oc⟩ f n _ (h.frame (Same.below BW.out)) hf hn).mono ?_
  rintro e w2 ⟨rfl, b2⟩
  have B2 := Lib.hid (below_both BW.out b2)
  have KC2 := Lib.hid (block_below b2 KC.out)
  have KZ2 := Lib.hid (block_below b2 KZ.out)
  have HZ2 : Hid (w.heap.size + 2 ≤ w2.heap.size) := (Array.getElem?_eq_some_iff.1 KZ2.out).1
  clear b2 h
  by_cases he : winErr c f n = 0
  case neg =>
    have t0 : (winErr c f n != 0) = true := by simpa using he
    have HRM : Hid (winC c f n = cd0) := by show _ = _; unfold winC; rw [if_neg he]
    clear he
    obtain ⟨y0, y1, y2, y3⟩ := cd_block4 KZ2.out
    have zf : ∀ i, w2.frozen? ⟨w.heap.size + 1, i, none⟩ = false := fun i => frozen_of_block KZ2.out
    go_wp2_with fail
    refine bodyPost_ret_block2 (cs := cellsC cd0 none 0 none 0) (w.heap.size + 1) (0, 0) _ rfl rfl rfl (four_set' KZ2.out _ _ _ _) Tryd.underlying25 rfl (by kernel_rfl) rfl ⟨⟨none, 0, none, 0⟩, by rw [HRM.out]; rfl, ?_, four_below B2.out (by omega) _ _ _ _⟩
    rw [HRM.out]
    exact ⟨Rd.nil _ _ _ _ _ (by decide), Rd.nil _ _ _ _ _ (by decide)⟩
  have t0 : (winErr c f n != 0) = false := by simpa using he
  obtain ⟨hce, hf0, hn0, hfn⟩ := winErr_zero he
  obtain ⟨F, rfl⟩ := Int.eq_ofNat_of_zero_le hf0
  obtain ⟨m, rfl⟩ := Int.eq_ofNat_of_zero_le hn0
  have HRM : Hid (winC c F m = winCd c F m) := by show _ = _; unfold winC; rw [if_pos he, Int.toNat_natCast, Int.toNat_natCast]
  have HER := Lib.hid he
  have HOK := Lib.hid (cd_ok hce)
  have hlen := HOK.out.len
  have hFm : F + m ≤ c.ins.length := by omega
  have hwl : (winIns c F m).length = m := by unfold winIns; rw [List.length_take, List.length_drop]; omega
  have HWL := Lib.hid hwl
  obtain ⟨hr0, hr8⟩ := cd_regs HOK.out
  obtain ⟨R, hR⟩ : ∃ R : Nat, c.regs = (R : Int) := ⟨c.regs.toNat, by omega⟩
  have hR8 : R ≤ 8 := by omega
  have HRR := Lib.hid hR
  obtain ⟨D, hD⟩ : ∃ D, D = F + m := ⟨_, rfl⟩
  have HDD := Lib.hid hD
  have hsum : IntKind.i64.wrap ((F : Int) + (m : Int)) = (D : Int) := by rw [IntWalk.i64_in _ (by omega)]; omega
  have hDl : D ≤ c.ins.length := by omega
  have hFD : F ≤ D := by omega
  have hDm : D = F + m := hD
  clear he hce hf hn hf0 hn0 hfn hwl hr0 hr8 hR hD
  obtain ⟨z0, z1, z2, z3⟩ := cd_block4 KC2.out
  have HDm := Lib.hid hDm
  clear hDm
  have KG2 := Lib.hid (heap_alloc_new w2 (.cells #[.int .i64 c.width, .int .i64 c.regs, .slice none 0 0, .slice none 0 0] 25))
  have KC2a := Lib.hid (block_alloc KC2.out (.cells #[.int .i64 c.width, .int .i64 c.regs, .slice none 0 0, .slice none 0 0] 25))
  have KZ2a := Lib.hid (block_alloc KZ2.out (.cells #[.int .i64 c.width, .int .i64 c.regs, .slice none 0 0, .slice none 0 0] 25))
  have B2a := Lib.hid (below_alloc B2.out (.cells #[.int .i64 c.width, .int .i64 c.regs, .slice none 0 0, .slice none 0 0] 25))
  go_wp2_with fail
  go_loopw [10] (fun i wr => ∃ (j : Nat) (va : Option Addr) (vc : Nat), F ≤ j ∧ j ≤ D ∧ i = .int .i64 j ∧ Hid (wr.heap[w2.heap.size]? = some (.cells #[.int .i64 c.width, .int .i64 c.regs, .slice va ((winIns c F m).take (j - F)).length vc, .slice none 0 0] 25 (0, 0))) ∧ Hid (Own kIn 54 NoS wr (w2.heap.size + 1) (.slice va ((winIns c F m).take (j - F)).length vc) ((winIns c F m).take (j - F))) ∧ Hid (wr.heap[w.heap.size]? = some (.cells (cellsC c ia ic oa oc) 25 (0, 0))) ∧ Hid (wr.heap[w.heap.size + 1]? = some (.cells (cellsC cd0 none 0 none 0) 25 (0, 0))) ∧ Hid (Below w.heap.size w wr)) (fun i _ => D - (intOf i).toNat)
  case atStart => exact ⟨F, none, 0, Nat.le_refl _, hFD, rfl, by rw [Nat.sub_self]; exact KG2.out, by rw [Nat.sub_self]; exact Own.nil _ _ _ _ _, KC2a.out, KZ2a.out, B2a.out⟩
  case round =>
    clear z0 z1 z2 z3
    obtain ⟨j, va, vc, hj1, hj2, rfl, KG3, O3, KC3, KZ3, HB⟩ := hrel
    obtain ⟨z0, z1, z2, z3⟩ := cd_block4 KC3.out
    obtain ⟨g0, g1, g2, g3⟩ := cd_block4 KG3.out
    by_cases hlt : j < D
    · have hjl : j < c.ins.length := by omega
      obtain ⟨b, o, rfl, -, hbw0, hat0⟩ := in_elem HI.out hjl
      obtain ⟨c0, c1, c2, c3, c4, c5⟩ := hat0.frame (w' := wr) (HB.out.block b hbw0)
      have HX : Hid ((winIns c F m).take (j + 1 - F) = (winIns c F m).take (j - F) ++ [c.ins[j]]) := by
        show _ = _
        have h1 : F + (j - F) = j := by omega
        have h2 : j - F < m := by have := HDm.out; omega
        have := winIns_take c F m (j - F) h2 (by omega)
        rw [show j + 1 - F = (j - F) + 1 by omega, this]
        simp only [h1]
      have hxb : ((winIns c F m).take (j - F)).length ≤ 256 := by rw [List.length_take]; omega
      generalize c.ins[j] = x at *
      generalize (winIns c F m).take (j - F) = X at *
      have hxl : (X ++ [x]).length = X.length + 1 := by simp
      have HXL := Lib.hid hxl
      have hj0 : (0 : Int) ≤ (j : Int) := by omega
      have hj3 : (j : Int) < (c.ins.length : Int) := by omega
      have HROW : Hid (∀ k, (Value.slice va X.length vc).ownBlock = some k → w2.heap.size + 1 ≤ k) := fun k hk => (O3.out.lt k hk).1
      have HZ3 : Hid (w2.heap.size + 1 ≤ wr.heap.size) := (Array.getElem?_eq_some_iff.1 KG3.out).1
      have hf3 : ∀ i, wr.frozen? ⟨w2.heap.size, i, none⟩ = false := fun i => frozen_of_block KG3.out
      have u2 : ∀ ob, (wr.alloc ob).cell? ⟨w2.heap.size, 2, none⟩ = some (.slice va X.length vc) := fun ob => (World.cell?_of_block (Below.heap_alloc wr ob w2.heap.size HZ3.out)).trans g2
      have uf : ∀ ob i, (wr.alloc ob).frozen? ⟨w2.heap.size, i, none⟩ = false := fun ob i => frozen_of_block (block_alloc KG3.out ob)
      clear hat0 hxl g0 g1 g3 z0 z1 z3
      go_wp2_with fail
      go_region_law
        (first
        | ((with_reducible refine gate_s (.tmp 37) (.tmp 43) rfl ?_)
           refine step_append_ev _ rfl (.tmp 37) (.tmp 43) 22 rfl _ _ rfl rfl _ (run_app1 wr.drew infoIn rfl _ (O3.out.drewN 1) 54 (inCells x) x rfl (by omega) (by omega) HZ3.out) ?_
           rintro n6 w6 ⟨ow6, g6, v6, an, cn, rfl⟩
           have O6w := Lib.hid ow6
           have G6w := Lib.hid g6
           have KG9 := Lib.hid (block_grown g6 (w := wr.drew) KG3.out (fun e => by have := (O3.out.lt _ e.symm).1; omega))
           have kf9 : ∀ i, w6.frozen? ⟨w2.heap.size, i, none⟩ = false := fun i => frozen_of_block KG9.out
           obtain ⟨r0, r1, r2, r3⟩ := cd_block4 KG9.out
           clear ow6 g6 v6)
        | fail)
      all_goals
        go_wp2_with fail
        go_roundw
        case rel =>
          refine ⟨j + 1, an, cn, by omega, by omega, by go_num, ?_, ?_, ?_, ?_, ?_⟩
          · have h9 := KG9.out
            show _ = _
            rw [HX.out, HXL.out]
            simp [World.setCell, Array.getElem?_modify, h9]
          · show Own _ _ _ _ _ _ _
            rw [HX.out, HXL.out]
            exact O6w.out.same (Same.setCell w6 _ (fun b hb => by rcases hb with hb | hb; (· exact hb.elim); (· have := (O6w.out.lt b hb.symm).1; show b ≠ w2.heap.size; omega)))
          · exact Lib.hid (block_far (block_grown G6w.out (w := wr.drew) KC3.out (fun e => by have := HROW.out _ e.symm; have := HZ2.out; omega)) _ (by show w.heap.size ≠ w2.heap.size; have := HZ2.out; omega))
          · exact Lib.hid (block_far (block_grown G6w.out (w := wr.drew) KZ3.out (fun e => by have := HROW.out _ e.symm; have := HZ2.out; omega)) _ (by show w.heap.size + 1 ≠ w2.heap.size; have := HZ2.out; omega))
          · exact Lib.hid (((below_drewN HB.out 1).grown G6w.out HB.out.size (fun k hk => by have := HROW.out k hk; have := HZ2.out; omega)).setCell (by show w.heap.size ≤ w2.heap.size; have := HZ2.out; omega) _)
        case measure => simp [intOf] <;> omega
    · obtain rfl : j = D := by omega
      obtain ⟨w4, hw4⟩ : ∃ w4, w4 = wr := ⟨_, rfl⟩
      subst hw4
      have hXF : (winIns c F m).take (j - F) = winIns c F m := List.take_of_length_le (by rw [HWL.out]; have := HDm.out; omega)
      rw [hXF, HWL.out] at KG3 O3
      rw [hXF, HWL.out] at g2
      clear hXF
      have CB := Lib.hid (fun W (b : Below w.heap.size w W) => ref50_Before S c ⟨ia, ic, oa, oc⟩ j R W (HC.out.frame (Same.below b)) hDl HRR.out hR8)
      go_wp2_with fail
      refine (CB.out _ HB.out).mono ?_
      rintro e w5 ⟨v5, rfl, o5, b5⟩
      obtain ⟨a5, c5, rfl⟩ := o5.form
      have hLlen := regsK_length (stateR c.out (c.ins.drop j)) R
      have HOUT : Hid (regsK (winOut c F m) 8 = keepW (winIns c F m) (regsK (stateR c.out (c.ins.drop j)) R)) := by
        show _ = _
        have h1 := before_eq HOK.out j
        have h2 : c.regs.toNat = R := by rw [HRR.out]; rfl
        rw [h2] at h1
        rw [h1]
        unfold keepW winOut
        rw [regsK_filter, HDm.out]
      have HLE : Hid (∀ r ∈ regsK (stateR c.out (c.ins.drop j)) R, ∃ q : Nat, r = (q : Int)) := fun r hr => ⟨r.toNat, by have := (mem_regsK _ _ _).1 hr; omega⟩
      generalize regsK (stateR c.out (c.ins.drop j)) R = L at *
      have B5 := Lib.hid (below_both HB.out b5)
      have KG5 := Lib.hid (block_below b5 KG3.out)
      have KZ5 := Lib.hid (block_below b5 KZ3.out)
      have O5 := Lib.hid (O3.out.below b5)
      have OL5 := Lib.hid o5
      have HZ5 : Hid (w4.heap.size ≤ w5.heap.size) := b5.size
      have HG5 : Hid (w2.heap.size < w4.heap.size) := (Array.getElem?_eq_some_iff.1 KG3.out).1
      clear b5 o5 z0 z1 z2 z3 g0 g1 g2 g3 CB
      go_wp2_with fail
      go_loopw [12] (fun i wq => ∃ (k : Nat) (xa : Option Addr) (xc : Nat), k ≤ L.length ∧ i = .int .i64 k ∧ Hid (wq.heap[w2.heap.size]? = some (.cells #[.int .i64 c.width, .int .i64 c.regs, .slice va m vc, .slice xa (keepW (winIns c F m) (L.take k)).length xc] 25 (0, 0))) ∧ Hid (Own (Kd.int .i64) 3 NoS wq w5.heap.size (.slice xa (keepW (winIns c F m) (L.take k)).length xc) (keepW (winIns c F m) (L.take k))) ∧ Hid (Same (fun b => b < w5.heap.size ∧ b ≠ w2.heap.size) w5 wq) ∧ Hid (Below w.heap.size w wq)) (fun i _ => L.length - (intOf i).toNat)
      case atStart => exact ⟨0, none, 0, by omega, rfl, KG5.out, Own.nil _ _ _ _ _, Same.refl _ _, B5.out⟩
      case round =>
        obtain ⟨k, xa, xc, hk, rfl, KG6, O6, S6, B6⟩ := hrel
        obtain ⟨w6, hw6⟩ : ∃ w6, w6 = wr := ⟨_, rfl⟩
        subst hw6
        by_cases hkl : k < L.length
        · obtain ⟨q, hq⟩ := HLE.out _ (List.getElem_mem hkl)
          have HLK : Hid (L[k] = (q : Int)) := hq
          go_wp2_with fail
          go_loopw [13, 14] (fun d i wq => ∃ n2 : Nat, n2 ≤ m ∧ i = .int .i64 n2 ∧ d = .bool (defsAny ((winIns c F m).take n2) q) ∧ Hid (Below w6.heap.size w6 wq)) (fun _ i _ => m - (intOf i).toNat)
          case atStart => exact ⟨0, by omega, rfl, by simp [defsAny], Below.refl _ _⟩
          case round =>
            obtain ⟨n2, hn2, rfl, rfl, HB7⟩ := hrel
            have KG7 := Lib.hid (block_below HB7.out KG6.out)
            by_cases hn : n2 < m
            · have hnw : n2 < (winIns c F m).length := by rw [HWL.out]; exact hn
              have HN := Lib.hid (List.take_succ_eq_append_getElem hnw)
              have O5' := Lib.hid (O5.out.same (w' := wr) ((S6.out.mono (fun b hb => by rcases hb with hb | hb; (· exact hb.elim); (· have := O5.out.lt b hb.symm; exact ⟨this.2, by omega⟩))).trans (Same.below HB7.out)))
              obtain ⟨bb, bo, rfl, -, hbw, hat⟩ := in_elem (Own.rd' O5'.out) hnw
              obtain ⟨c0, c1, c2, c3, c4, c5⟩ := hat
              generalize (winIns c F m)[n2] = x at *
              have L5' := Lib.hid (OL5.out.same (w' := wr) ((S6.out.mono (fun b hb => by rcases hb with hb | hb; (· exact hb.elim); (· have h1 := OL5.out.lt b hb.symm; have h2 := HG5.out; exact ⟨h1.2, by omega⟩))).trans (Same.below HB7.out)))
              obtain ⟨lb, lo, rfl, -, hlw, hc⟩ := (Own.rd' L5'.out).vals (by omega) 0
              have d5 := hc k hkl
              rw [getD_at _ hkl, HLK.out] at d5
              obtain ⟨g0, g1, g2, g3⟩ := cd_block4 KG7.out
              have hk0 : (0 : Int) ≤ (k : Int) := by omega
              have hk1 : (k : Int) < (L.length : Int) := by omega
              have hn0 : (0 : Int) ≤ (n2 : Int) := by omega
              have hn1 : (n2 : Int) < (m : Int) := by omega
              clear hc
              cases hd : defsAny ((winIns c F m).take n2) q
              · have HE : Hid (defsAny ((winIns c F m).take (n2 + 1)) q = (defsI x && (x.dst == (q : Int)))) := by
                  show _ = _
                  rw [HN.out, defsAny_snoc, hd, Bool.false_or]
                  congr 1
                clear hd
                go_wp2_with fail
                go_region_held3 (fun w' => w'.cell? ⟨w2.heap.size, 2, none⟩ = some (.slice (some ⟨bb, bo, none⟩) m vc) ∧ w'.cell? ⟨lb, lo + k, none⟩ = some (.int .i64 (q : Int)) ∧ w'.cell? ⟨bb, bo + n2 * 6, none⟩ = some (.int .i64 x.op) ∧ w'.cell? ⟨bb, bo + n2 * 6 + 1, none⟩ = some (.int .i64 x.dst) ∧ w'.cell? ⟨bb, bo + n2 * 6 + 2, none⟩ = some (.int .i64 x.a) ∧ w'.cell? ⟨bb, bo + n2 * 6 + 3, none⟩ = some (.int .i64 x.b) ∧ w'.cell? ⟨bb, bo + n2 * 6 + 4, none⟩ = some (.int .i64 x.c) ∧ w'.cell? ⟨bb, bo + n2 * 6 + 5, none⟩ = some (.int .u64 x.imm))
                  (first | with_reducible exact ⟨y2, y5, e0, e1, e2, e3, e4, e5⟩ | exact ⟨g2, d5, c0, c1, c2, c3, c4, c5⟩)
                  (first
                  | (go_at_call 47
                     refine (ref50_Defines x (q : Int) _).mono ?_
                     rintro e w8 ⟨rfl, b8⟩
                     have B8 := Lib.hid (below_both (below_drewN (Below.refl _ wr) 1) b8)
                     have y2 := (World.cell?_of_block (B8.out.block _ (Array.getElem?_eq_some_iff.1 KG7.out).1)).trans g2
                     have y5 := (World.cell?_of_block (B8.out.block _ hlw)).trans d5
                     have e0 := (World.cell?_of_block (B8.out.block _ hbw)).trans c0
                     have e1 := (World.cell?_of_block (B8.out.block _ hbw)).trans c1
                     have e2 := (World.cell?_of_block (B8.out.block _ hbw)).trans c2
                     have e3 := (World.cell?_of_block (B8.out.block _ hbw)).trans c3
                     have e4 := (World.cell?_of_block (B8.out.block _ hbw)).trans c4
                     have e5 := (World.cell?_of_block (B8.out.block _ hbw)).trans c5)
                  | fail)
                clear y2 y5 e0 e1 e2 e3 e4 e5 c0 c1 c2 c3 c4 c5 d5 g0 g1 g2 g3
                go_wp2_with fail
                go_roundw
                case rel => exact ⟨n2 + 1, by omega, by go_num, by rw [HE.out], below_both HB7.out B8.out⟩
                case measure => simp [intOf]; omega
              · have HE : Hid (defsAny ((winIns c F m).take (n2 + 1)) q = true) := by
                  show _ = _
                  rw [HN.out, defsAny_snoc, hd, Bool.true_or]
                clear hd
                go_wp2_with fail
                go_quiet (fail)
                go_wp2_with fail
                go_roundw
                case rel => exact ⟨n2 + 1, by omega, by go_num, by rw [HE.out], below_drewN HB7.out _⟩
                case measure => simp [intOf]; omega
            · obtain rfl : n2 = m := by omega
              have hXF : (winIns c F n2).take n2 = winIns c F n2 := List.take_of_length_le (by rw [HWL.out]; exact Nat.le_refl _)
              rw [hXF]
              clear hXF
              have HKS := Lib.hid (List.take_succ_eq_append_getElem hkl)
              rw [HLK.out] at HKS
              have B7 := Lib.hid (below_both B6.out HB7.out)
              have S7 := Lib.hid (S6.out.trans (Same.below HB7.out))
              have O7 := Lib.hid (O6.out.below HB7.out)
              cases hd : defsAny (winIns c F n2) q
              · have HE : Hid (keepW (winIns c F n2) (L.take (k + 1)) = keepW (winIns c F n2) (L.take k)) := by
                  show _ = _
                  rw [HKS.out, keepW_snoc, Int.toNat_natCast, hd]
                  rfl
                clear hd
                go_wp2_with fail
                go_roundw
                case rel => exact ⟨k + 1, xa, xc, by omega, by go_num, by rw [HE.out]; exact KG7.out, by rw [HE.out]; exact O7.out, S7.out, B7.out⟩
                case measure => simp [intOf]; omega
              · have HE : Hid (keepW (winIns c F n2) (L.take (k + 1)) = keepW (winIns c F n2) (L.take k) ++ [(q : Int)]) := by
                  show _ = _
                  rw [HKS.out, keepW_snoc, Int.toNat_natCast, hd]
                  rfl
                clear hd
                have hxb : (keepW (winIns c F n2) (L.take k)).length ≤ 8 := Nat.le_trans (keepW_len _ _) (by rw [List.length_take]; omega)
                generalize keepW (winIns c F n2) (L.take k) = X at *
                have hxl : (X ++ [(q : Int)]).length = X.length + 1 := by simp
                have HXL := Lib.hid hxl
                have L5' := Lib.hid (OL5.out.same (w' := wr) (S7.out.mono (fun b hb => by rcases hb with hb | hb; (· exact hb.elim); (· have h1 := OL5.out.lt b hb.symm; have h2 := HG5.out; exact ⟨h1.2, by omega⟩))))
                obtain ⟨lb, lo, rfl, -, hlw, hc⟩ := (Own.rd' L5'.out).vals (by omega) 0
                have d5 := hc k hkl
                rw [getD_at _ hkl, HLK.out] at d5
                obtain ⟨g0, g1, g2, g3⟩ := cd_block4 KG7.out
                have hk0 : (0 : Int) ≤ (k : Int) := by omega
                have hk1 : (k : Int) < (L.length : Int) := by omega
                have HROW : Hid (∀ k, (Value.slice xa X.length xc).ownBlock = some k → w5.heap.size ≤ k) := fun k hk => (O7.out.lt k hk).1
                have HZ7 : Hid (w5.heap.size ≤ wr.heap.size) := S7.out.1
                have HGL7 : Hid (w2.heap.size + 1 ≤ wr.heap.size) := (Array.getElem?_eq_some_iff.1 KG7.out).1
                have u3 : ∀ ob, (wr.alloc ob).cell? ⟨w2.heap.size, 3, none⟩ = some (.slice xa X.length xc) := fun ob => (World.cell?_of_block (Below.heap_alloc wr ob w2.heap.size HGL7.out)).trans g3
                clear hc hxl g0 g1 g2
                go_wp2_with fail
                go_region_law
                  (first
                  | ((with_reducible refine gate_s (.tmp 77) (.tmp 82) rfl ?_)
                     refine step_append_ev _ rfl (.tmp 77) (.tmp 82) 23 rfl _ _ rfl rfl _ (run_app1 wr.drew infoInt rfl _ (O7.out.drewN 1) 3 [.int .i64 (q : Int)] (q : Int) rfl (by omega) (by omega) HZ7.out) ?_
                     rintro n6 w8 ⟨ow6, g6, v6, an, cn, rfl⟩
                     have O6w := Lib.hid ow6
                     have G6w := Lib.hid g6
                     have KG9 := Lib.hid (block_grown g6 (w := wr.drew) KG7.out (fun e => by have := (O7.out.lt _ e.symm).1; have := HZ5.out; have := HG5.out; omega))
                     have kf9 : ∀ i, w8.frozen? ⟨w2.heap.size, i, none⟩ = false := fun i => frozen_of_block KG9.out
                     obtain ⟨r0, r1, r2, r3⟩ := cd_block4 KG9.out
                     clear ow6 g6 v6)
                  | fail)
                all_goals
                  go_wp2_with fail
                  go_roundw
                  case rel =>
                    have h5 := HZ5.out
                    have h6 := HG5.out
                    refine ⟨k + 1, an, cn, by omega, by go_num, ?_, ?_, ?_, ?_⟩
                    · have h9 := KG9.out
                      show _ = _
                      rw [HE.out, HXL.out]
                      simp [World.setCell, Array.getElem?_modify, h9]
                    · show Own _ _ _ _ _ _ _
                      rw [HE.out, HXL.out]
                      exact O6w.out.same (Same.setCell w8 _ (fun b hb => by rcases hb with hb | hb; (· exact hb.elim); (· have := (O6w.out.lt b hb.symm).1; show b ≠ w2.heap.size; omega)))
                    · exact Lib.hid (((S7.out.trans (Same.drewN _ wr 1)).trans (Same.grown G6w.out (fun b hb e => by have := HROW.out b e.symm; have := hb.1; omega))).trans (Same.setCell w8 _ (fun b hb => hb.2)))
                    · exact Lib.hid (((below_drewN B7.out 1).grown G6w.out B7.out.size (fun k hk => by have := HROW.out k hk; have := HZ2.out; omega)).setCell (by show w.heap.size ≤ w2.heap.size; have := HZ2.out; omega) _)
                  case measure => simp [intOf] <;> omega
        · obtain rfl : k = L.length := by omega
          rw [List.take_length] at KG6 O6
          have HZZ : Hid (keepW (winIns c F m) L = regsK (winOut c F m) 8) := HOUT.out.symm
          rw [HZZ.out] at KG6 O6
          have KZ6 := Lib.hid ((S6.out.2 (w.heap.size + 1) ⟨by have := (Array.getElem?_eq_some_iff.1 KZ5.out).1; omega, by have := HZ2.out; omega⟩ (Array.getElem?_eq_some_iff.1 KZ5.out).1).trans KZ5.out)
          have I6 := Lib.hid (O5.out.same (w' := w6) (S6.out.mono (fun b hb => by rcases hb with hb | hb; (· exact hb.elim); (· have := O5.out.lt b hb.symm; exact ⟨this.2, by omega⟩))))
          obtain ⟨x0, x1, x2, x3⟩ := cd_block4 KG6.out
          obtain ⟨y0, y1, y2, y3⟩ := cd_block4 KZ6.out
          have yf : ∀ i, w6.frozen? ⟨w.heap.size + 1, i, none⟩ = false := fun i => frozen_of_block KZ6.out
          have HWC : Hid (winCd c F m = { c with ins := winIns c F m, out := regsK (winOut c F m) 8 }) := rfl
          generalize regsK (winOut c F m) 8 = Z at *
          go_wp2_with fail
          refine bodyPost_ret_block2 (cs := #[.int .i64 c.width, .int .i64 c.regs, .slice va m vc, .slice xa Z.length xc]) (w.heap.size + 1) (0, 0) _ rfl rfl rfl (four_set' KZ6.out _ _ _ _) Tryd.underlying25 rfl (by kernel_rfl) rfl ⟨⟨va, vc, xa, xc⟩, ?_, ?_, four_below B6.out (by omega) _ _ _ _⟩
          · rw [HRM.out, HER.out, HWC.out]
            simp only [HWL.out]
            rfl
          · rw [HRM.out, HWC.out]
            refine ⟨?_, ?_⟩
            · refine Rd.mono (fun _ _ _ => trivial) (Own.rd' (I6.out.same (four_same (fun b hb => ?_) _ _ _ _)))
              rcases hb with hb | hb
              · exact hb.elim
              · have h1 := I6.out.lt b hb.symm
                have h3 := HZ2.out
                show b ≠ w.heap.size + 1
                omega
            · refine Rd.mono (fun _ _ _ => trivial) (Own.rd' (O6.out.same (four_same (fun b hb => ?_) _ _ _ _)))
              rcases hb with hb | hb
              · exact hb.elim
              · have h1 := O6.out.lt b hb.symm
                have h3 := HZ2.out
                have h4 := HZ5.out
                have h5 := HG5.out
                show b ≠ w.heap.size + 1
                omega
end Go.Proofs.Sat
