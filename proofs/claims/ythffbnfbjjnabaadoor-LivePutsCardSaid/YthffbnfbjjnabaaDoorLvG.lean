/- The walk of the reference's Replace. -/
import Derived.Test.YthffbnfbjjnabaaDoorLvV
set_option linter.unusedVariables false
set_option linter.unusedSimpArgs false
namespace Go.Proofs.Sat
open Go Go.RowKit
def repErr (c d : Cd) (f n : Int) : Int :=
  if winErr c f n ≠ 0 then winErr c f n else if cdErr d ≠ 0 then cdErr d else if d.width ≠ c.width ∨ d.regs ≠ c.regs then 3 else if (256 : Int) < c.ins.length - n + d.ins.length then 7 else 0
def repIns (c d : Cd) (f n : Nat) : List In := c.ins.take f ++ d.ins ++ c.ins.drop (f + n)
def repC (c d : Cd) (f n : Int) : Cd := if repErr c d f n = 0 then { c with ins := repIns c d f.toNat n.toNat } else cd0
theorem drop_take_succ (l : List In) (D i : Nat) (h : D + i < l.length) : (l.drop D).take (i + 1) = (l.drop D).take i ++ [l[D + i]] := by
  have h1 : i < (l.drop D).length := by rw [List.length_drop]; omega
  rw [List.take_succ_eq_append_getElem h1, List.getElem_drop]
set_option maxRecDepth 20000 in
set_option maxHeartbeats 4000000 in
theorem ref50_Replace (S : Nat → Prop) (c d : Cd) (p q : CdAt) (f n : Int) (w : World) (h : CdRd S w c p) (h' : CdRd S w d q) (hf : -9223372036854775808 ≤ f ∧ f ≤ 9223372036854775807) (hn : -9223372036854775808 ≤ n ∧ n ≤ 9223372036854775807) : Calls Tryd.prog 24 #[cdVal c p, .int .i64 f, .int .i64 n, cdVal d q] w fun e w' => ∃ p', e = .returned (.tuple #[cdVal (repC c d f n) p', .int .i64 (repErr c d f n)]) ∧ CdRd (fun _ => True) w' (repC c d f n) p' ∧ Below w.heap.size w w' := by
  obtain ⟨ia, ic, oa, oc⟩ := p
  obtain ⟨ja, jc, qa, qc⟩ := q
  have BW := Lib.hid (below_alloc (below_alloc (below_alloc (Below.refl w.heap.size w) (.cells (cellsC c ia ic oa oc) 25)) (.cells (cellsC d ja jc qa qc) 25)) (.cells (cellsC cd0 none 0 none 0) 25))
  have KC := Lib.hid (block_alloc (block_alloc (heap_alloc_new w (.cells (cellsC c ia ic oa oc) 25)) (.cells (cellsC d ja jc qa qc) 25)) (.cells (cellsC cd0 none 0 none 0) 25))
  have KD := Lib.hid (block_alloc (block_at1 w (.cells (cellsC c ia ic oa oc) 25) (.cells (cellsC d ja jc qa qc) 25)) (.cells (cellsC cd0 none 0 none 0) 25))
  have KZ : Hid ((((w.alloc (.cells (cellsC c ia ic oa oc) 25)).alloc (.cells (cellsC d ja jc qa qc) 25)).alloc (.cells (cellsC cd0 none 0 none 0) 25)).heap[w.heap.size + 1 + 1]? = some (.cells (cellsC cd0 none 0 none 0) 25 (0, 0))) := block_at2 w _ _ _
  have HC := Lib.hid h
  have HD := Lib.hid h'
  have HI : Hid (Rd kIn S w ia ic c.ins) := h.ins
  have HJ : Hid (Rd kIn S w ja jc d.ins) := h'.ins
  have hil := h.ins.le
  have hjl := h'.ins.le
  unfold cdVal
  go_enter Tryd.func24, Tryd.ntmps24
  go_wp2_with fail
  refine (ref50_refused S c ⟨ia, ic, oa, oc⟩ f n _ (h.frame (Same.below BW.out)) hf hn).mono ?_
  rintro e w2 ⟨rfl, b2⟩
  have B2 := Lib.hid (below_both BW.out b2)
  have KC2 := Lib.hid (block_below b2 KC.out)
  have KD2 := Lib.hid (block_below b2 KD.out)
  have KZ2 := Lib.hid (block_below b2 KZ.out)
  clear b2 h h'
  by_cases he : winErr c f n = 0
  case neg =>
    have t0 : (winErr c f n != 0) = true := by simpa using he
    have HER : Hid (repErr c d f n = winErr c f n) := by show _ = _; unfold repErr; rw [if_pos he]
    have HRM : Hid (repC c d f n = cd0) := by show _ = _; unfold repC; rw [if_neg (by rw [HER.out]; exact he)]
    clear he
    obtain ⟨y0, y1, y2, y3⟩ := cd_block4 KZ2.out
    have zf : ∀ i, w2.frozen? ⟨w.heap.size + 1 + 1, i, none⟩ = false := fun i => frozen_of_block KZ2.out
    go_wp2_with fail
    refine bodyPost_ret_block2 (cs := cellsC cd0 none 0 none 0) (w.heap.size + 1 + 1) (0, 0) _ rfl rfl rfl (four_set' KZ2.out _ _ _ _) Tryd.underlying25 rfl (by kernel_rfl) rfl ⟨⟨none, 0, none, 0⟩, by rw [HRM.out, HER.out]; rfl, ?_, four_below B2.out (by omega) _ _ _ _⟩
    rw [HRM.out]
    exact ⟨Rd.nil _ _ _ _ _ (by decide), Rd.nil _ _ _ _ _ (by decide)⟩
  have t0 : (winErr c f n != 0) = false := by simpa using he
  obtain ⟨hce, hf0, hn0, hfn⟩ := winErr_zero he
  have HE0 := Lib.hid he
  obtain ⟨F, rfl⟩ := Int.eq_ofNat_of_zero_le hf0
  obtain ⟨m, rfl⟩ := Int.eq_ofNat_of_zero_le hn0
  have HOK := Lib.hid (cd_ok hce)
  have hlen := HOK.out.len
  have hFm : F + m ≤ c.ins.length := by omega
  have CK := Lib.hid (ref50_Check S d ⟨ja, jc, qa, qc⟩ w2 (HD.out.frame (Same.below B2.out)))
  obtain ⟨z0, z1, z2, z3⟩ := cd_block4 KD2.out
  clear he hce hf hn hf0 hn0 hfn
  go_wp2_with fail
  refine CK.out.mono ?_
  rintro e w3 ⟨rfl, b3⟩
  have B3 := Lib.hid (below_both B2.out b3)
  have KC3 := Lib.hid (block_below b3 KC2.out)
  have KD3 := Lib.hid (block_below b3 KD2.out)
  have KZ3 := Lib.hid (block_below b3 KZ2.out)
  clear b3 z0 z1 z2 z3 CK
  obtain ⟨y0, y1, y2, y3⟩ := cd_block4 KZ3.out
  have zf : ∀ i, w3.frozen? ⟨w.heap.size + 1 + 1, i, none⟩ = false := fun i => frozen_of_block KZ3.out
  by_cases hd : cdErr d = 0
  case neg =>
    have t1 : (cdErr d != 0) = true := by simpa using hd
    have HER : Hid (repErr c d F m = cdErr d) := by show _ = _; unfold repErr; rw [if_neg (by rw [HE0.out]; simp), if_pos hd]
    have HRM : Hid (repC c d F m = cd0) := by show _ = _; unfold repC; rw [if_neg (by rw [HER.out]; exact hd)]
    clear hd
    go_wp2_with fail
    refine bodyPost_ret_block2 (cs := cellsC cd0 none 0 none 0) (w.heap.size + 1 + 1) (0, 0) _ rfl rfl rfl (four_set' KZ3.out _ _ _ _) Tryd.underlying25 rfl (by kernel_rfl) rfl ⟨⟨none, 0, none, 0⟩, by rw [HRM.out, HER.out]; rfl, ?_, four_below B3.out (by omega) _ _ _ _⟩
    rw [HRM.out]
    exact ⟨Rd.nil _ _ _ _ _ (by decide), Rd.nil _ _ _ _ _ (by decide)⟩
  have t1 : (cdErr d != 0) = false := by simpa using hd
  have HDK := Lib.hid (cd_ok hd)
  have hdl := HDK.out.len
  have HD0 := Lib.hid hd
  clear hd
  obtain ⟨z0, z1, z2, z3⟩ := cd_block4 KD3.out
  obtain ⟨x0, x1, x2, x3⟩ := cd_block4 KC3.out
  by_cases hw : d.width ≠ c.width ∨ d.regs ≠ c.regs
  case pos =>
    have HER : Hid (repErr c d F m = 3) := by show _ = _; unfold repErr; rw [if_neg (by rw [HE0.out]; simp), if_neg (by rw [HD0.out]; simp), if_pos hw]
    have HRM : Hid (repC c d F m = cd0) := by show _ = _; unfold repC; rw [if_neg (by rw [HER.out]; decide)]
    by_cases hw1 : d.width = c.width
    · have hw2 : (d.regs != c.regs) = true := by rcases hw with hw | hw; (· exact absurd hw1 hw); (· simpa using hw)
      have hw3 : (d.width != c.width) = false := by simpa using hw1
      clear hw hw1
      go_wp2_with fail
      refine bodyPost_ret_block2 (cs := cellsC cd0 none 0 none 0) (w.heap.size + 1 + 1) (0, 0) _ rfl rfl rfl (four_set' KZ3.out _ _ _ _) Tryd.underlying25 rfl (by kernel_rfl) rfl ⟨⟨none, 0, none, 0⟩, by rw [HRM.out, HER.out]; rfl, ?_, four_below B3.out (by omega) _ _ _ _⟩
      rw [HRM.out]
      exact ⟨Rd.nil _ _ _ _ _ (by decide), Rd.nil _ _ _ _ _ (by decide)⟩
    · have hw3 : (d.width != c.width) = true := by simpa using hw1
      clear hw hw1
      go_wp2_with fail
      refine bodyPost_ret_block2 (cs := cellsC cd0 none 0 none 0) (w.heap.size + 1 + 1) (0, 0) _ rfl rfl rfl (four_set' KZ3.out _ _ _ _) Tryd.underlying25 rfl (by kernel_rfl) rfl ⟨⟨none, 0, none, 0⟩, by rw [HRM.out, HER.out]; rfl, ?_, four_below B3.out (by omega) _ _ _ _⟩
      rw [HRM.out]
      exact ⟨Rd.nil _ _ _ _ _ (by decide), Rd.nil _ _ _ _ _ (by decide)⟩
  have hw2 : (d.regs != c.regs) = false := by simp only [not_or, Decidable.not_not] at hw; simpa using hw.2
  have hw3 : (d.width != c.width) = false := by simp only [not_or, Decidable.not_not] at hw; simpa using hw.1
  obtain ⟨E, hE⟩ : ∃ E, E = c.ins.length - m := ⟨_, rfl⟩
  have hs1 : IntKind.i64.wrap ((c.ins.length : Int) - (m : Int)) = (E : Int) := by rw [IntWalk.i64_in _ (by omega)]; omega
  obtain ⟨T, hT⟩ : ∃ T, T = E + d.ins.length := ⟨_, rfl⟩
  have hs2 : IntKind.i64.wrap ((E : Int) + (d.ins.length : Int)) = (T : Int) := by rw [IntWalk.i64_in _ (by omega)]; omega
  by_cases h256 : 256 < T
  case pos =>
    have h256' : (256 : Int) < (T : Int) := by omega
    have HER : Hid (repErr c d F m = 7) := by show _ = _; unfold repErr; rw [if_neg (by rw [HE0.out]; simp), if_neg (by rw [HD0.out]; simp), if_neg hw, if_pos (by omega)]
    have HRM : Hid (repC c d F m = cd0) := by show _ = _; unfold repC; rw [if_neg (by rw [HER.out]; decide)]
    clear hw hE hT h256
    go_wp2_with fail
    refine bodyPost_ret_block2 (cs := cellsC cd0 none 0 none 0) (w.heap.size + 1 + 1) (0, 0) _ rfl rfl rfl (four_set' KZ3.out _ _ _ _) Tryd.underlying25 rfl (by kernel_rfl) rfl ⟨⟨none, 0, none, 0⟩, by rw [HRM.out, HER.out]; rfl, ?_, four_below B3.out (by omega) _ _ _ _⟩
    rw [HRM.out]
    exact ⟨Rd.nil _ _ _ _ _ (by decide), Rd.nil _ _ _ _ _ (by decide)⟩
  have h256' : ¬ (256 : Int) < (T : Int) := by omega
  have HER : Hid (repErr c d F m = 0) := by show _ = _; unfold repErr; rw [if_neg (by rw [HE0.out]; simp), if_neg (by rw [HD0.out]; simp), if_neg hw, if_neg (by omega)]
  have HRM : Hid (repC c d F m = { c with ins := repIns c d F m }) := by show _ = _; unfold repC; rw [if_pos HER.out, Int.toNat_natCast, Int.toNat_natCast]
  have HTL : Hid (c.ins.length - m + d.ins.length ≤ 256) := by show _ ≤ _; omega
  clear hw hE hT h256
  have HZ3 : Hid (w.heap.size + 1 + 1 < w3.heap.size) := (Array.getElem?_eq_some_iff.1 KZ3.out).1
  have BX := Lib.hid (below_alloc B3.out (.cells #[] 54))
  have KCX := Lib.hid (block_alloc KC3.out (.cells #[] 54))
  have KDX := Lib.hid (block_alloc KD3.out (.cells #[] 54))
  have KZX := Lib.hid (block_alloc KZ3.out (.cells #[] 54))
  have OX : Hid (Own kIn 54 NoS (w3.alloc (.cells #[] 54)) w3.heap.size (.slice (some ⟨w3.heap.size, 0, none⟩) 0 0) []) := Lib.hid (own_made (m := 0) (by simp) (fun _ _ => by simpa using Elems.nil) (by omega) (heap_alloc_new w3 _) (Nat.le_refl _))
  have HZX : Hid (w3.heap.size ≤ (w3.alloc (.cells #[] 54)).heap.size) := (below_alloc (Below.refl w3.heap.size w3) (.cells #[] 54)).size
  obtain ⟨D, hD⟩ : ∃ D, D = F + m := ⟨_, rfl⟩
  have HDm := Lib.hid hD
  have hsum : IntKind.i64.wrap ((F : Int) + (m : Int)) = (D : Int) := by rw [IntWalk.i64_in _ (by omega)]; omega
  have hDl : D ≤ c.ins.length := by omega
  clear hD
  go_wp2_with fail
  clear x0 x1 x2 x3 y0 y1 y2 y3 z0 z1 z2 z3 zf
  go_loopw [11, 12] (fun v i wr => ∃ k : Nat, k ≤ F ∧ i = .int .i64 k ∧ Hid (Own kIn 54 NoS wr w3.heap.size v (c.ins.take k)) ∧ Hid (wr.heap[w.heap.size]? = some (.cells (cellsC c ia ic oa oc) 25 (0, 0))) ∧ Hid (wr.heap[w.heap.size + 1]? = some (.cells (cellsC d ja jc qa qc) 25 (0, 0))) ∧ Hid (wr.heap[w.heap.size + 1 + 1]? = some (.cells (cellsC cd0 none 0 none 0) 25 (0, 0))) ∧ Hid (Below w.heap.size w wr) ∧ Hid (w3.heap.size ≤ wr.heap.size)) (fun _ i _ => F - (intOf i).toNat)
  case atStart => exact ⟨0, by omega, rfl, OX.out, KCX.out, KDX.out, KZX.out, BX.out, HZX.out⟩
  case round =>
    obtain ⟨k, hk, rfl, HO, KC1, KD1, KZ1, HB, HZ⟩ := hrel
    obtain ⟨z0, z1, z2, z3⟩ := cd_block4 KC1.out
    by_cases hlt : k < F
    · have hkl : k < c.ins.length := by omega
      obtain ⟨b, o, rfl, -, hbw0, hat0⟩ := in_elem HI.out hkl
      obtain ⟨c0, c1, c2, c3, c4, c5⟩ := hat0.frame (w' := wr) (HB.out.block b hbw0)
      have HX := Lib.hid (List.take_succ_eq_append_getElem hkl)
      have hxb : (c.ins.take k).length ≤ 256 := by rw [List.length_take]; omega
      clear hat0
      generalize c.ins[k] = x at *
      generalize c.ins.take k = X at *
      have hk0 : (0 : Int) ≤ (k : Int) := by omega
      have hk1 : (k : Int) < (c.ins.length : Int) := by omega
      go_wp2_with (first
        | (at_builtin; refine wpList_append_ev _ rfl _ _ 22 rfl _ _ rfl rfl _ (run_app1 wr infoIn rfl _ HO.out 54 (inCells x) x rfl (by omega) (by omega) HZ.out) ?_; rintro n6 w6 ⟨ow6, g6, -, _⟩; have B6 := Lib.hid (HB.out.grown g6 HB.out.size (fun k hk => by have := (HO.out.lt k hk).1; have := HZ3.out; omega)); have KC6 := Lib.hid (block_grown g6 KC1.out (fun e => by have := (HO.out.lt _ e.symm).1; have := HZ3.out; omega)); have KD6 := Lib.hid (block_grown g6 KD1.out (fun e => by have := (HO.out.lt _ e.symm).1; have := HZ3.out; omega)); have KZ6 := Lib.hid (block_grown g6 KZ1.out (fun e => by have := (HO.out.lt _ e.symm).1; have := HZ3.out; omega)); have HZ6 : Hid (w3.heap.size ≤ w6.heap.size) := Nat.le_trans HZ.out g6.size; have O6 := Lib.hid ow6; clear ow6 g6)
        | fail)
      go_roundw
      case rel => exact ⟨k + 1, by omega, by go_num, by show Own _ _ _ _ _ _ _; rw [HX.out]; exact O6.out, KC6.out, KD6.out, KZ6.out, B6.out, HZ6.out⟩
      case measure => simp [intOf]; omega
    · obtain rfl : k = F := by omega
      obtain ⟨w4, hw4⟩ : ∃ w4, w4 = wr := ⟨_, rfl⟩
      subst hw4
      clear z0 z1 z2 z3
      obtain ⟨z0, z1, z2, z3⟩ := cd_block4 KD1.out
      go_wp2_with fail
      go_loopw [11, 13] (fun v i wr => ∃ k2 : Nat, k2 ≤ d.ins.length ∧ i = .int .i64 k2 ∧ Hid (Own kIn 54 NoS wr w3.heap.size v (c.ins.take k ++ d.ins.take k2)) ∧ Hid (wr.heap[w.heap.size]? = some (.cells (cellsC c ia ic oa oc) 25 (0, 0))) ∧ Hid (wr.heap[w.heap.size + 1]? = some (.cells (cellsC d ja jc qa qc) 25 (0, 0))) ∧ Hid (wr.heap[w.heap.size + 1 + 1]? = some (.cells (cellsC cd0 none 0 none 0) 25 (0, 0))) ∧ Hid (Below w.heap.size w wr) ∧ Hid (w3.heap.size ≤ wr.heap.size)) (fun _ i _ => d.ins.length - (intOf i).toNat)
      case atStart => exact ⟨0, by omega, rfl, by rw [List.take_zero, List.append_nil]; exact HO.out, KC1.out, KD1.out, KZ1.out, HB.out, HZ.out⟩
      case round =>
        clear HO KC1 KD1 KZ1 HB HZ z0 z1 z2 z3
        obtain ⟨k2, hk2, rfl, HO, KC1, KD1, KZ1, HB, HZ⟩ := hrel
        obtain ⟨z0, z1, z2, z3⟩ := cd_block4 KD1.out
        by_cases hlt2 : k2 < d.ins.length
        · obtain ⟨b, o, rfl, -, hbw0, hat0⟩ := in_elem HJ.out hlt2
          obtain ⟨c0, c1, c2, c3, c4, c5⟩ := hat0.frame (w' := wr) (HB.out.block b hbw0)
          have HX : Hid (c.ins.take k ++ d.ins.take (k2 + 1) = (c.ins.take k ++ d.ins.take k2) ++ [d.ins[k2]]) := by
            show _ = _
            rw [List.take_succ_eq_append_getElem hlt2, List.append_assoc]
          have hxb : (c.ins.take k ++ d.ins.take k2).length ≤ 600 := by rw [List.length_append, List.length_take, List.length_take]; omega
          clear hat0
          generalize d.ins[k2] = x at *
          generalize c.ins.take k ++ d.ins.take k2 = X at *
          have hk0 : (0 : Int) ≤ (k2 : Int) := by omega
          have hk1 : (k2 : Int) < (d.ins.length : Int) := by omega
          go_wp2_with (first
            | (at_builtin; refine wpList_append_ev _ rfl _ _ 22 rfl _ _ rfl rfl _ (run_app1 wr infoIn rfl _ HO.out 54 (inCells x) x rfl (by omega) (by omega) HZ.out) ?_; rintro n6 w6 ⟨ow6, g6, -, _⟩; have B6 := Lib.hid (HB.out.grown g6 HB.out.size (fun k hk => by have := (HO.out.lt k hk).1; have := HZ3.out; omega)); have KC6 := Lib.hid (block_grown g6 KC1.out (fun e => by have := (HO.out.lt _ e.symm).1; have := HZ3.out; omega)); have KD6 := Lib.hid (block_grown g6 KD1.out (fun e => by have := (HO.out.lt _ e.symm).1; have := HZ3.out; omega)); have KZ6 := Lib.hid (block_grown g6 KZ1.out (fun e => by have := (HO.out.lt _ e.symm).1; have := HZ3.out; omega)); have HZ6 : Hid (w3.heap.size ≤ w6.heap.size) := Nat.le_trans HZ.out g6.size; have O6 := Lib.hid ow6; clear ow6 g6)
            | fail)
          go_roundw
          case rel => exact ⟨k2 + 1, by omega, by go_num, by show Own _ _ _ _ _ _ _; rw [HX.out]; exact O6.out, KC6.out, KD6.out, KZ6.out, B6.out, HZ6.out⟩
          case measure => simp [intOf]; omega
        · obtain rfl : k2 = d.ins.length := by omega
          rw [List.take_length] at HO
          obtain ⟨w5, hw5⟩ : ∃ w5, w5 = wr := ⟨_, rfl⟩
          subst hw5
          go_wp2_with fail
          go_loopw [11, 14] (fun v i wr => ∃ j : Nat, D ≤ j ∧ j ≤ c.ins.length ∧ i = .int .i64 j ∧ Hid (Own kIn 54 NoS wr w3.heap.size v (c.ins.take k ++ d.ins ++ (c.ins.drop D).take (j - D))) ∧ Hid (wr.heap[w.heap.size]? = some (.cells (cellsC c ia ic oa oc) 25 (0, 0))) ∧ Hid (wr.heap[w.heap.size + 1]? = some (.cells (cellsC d ja jc qa qc) 25 (0, 0))) ∧ Hid (wr.heap[w.heap.size + 1 + 1]? = some (.cells (cellsC cd0 none 0 none 0) 25 (0, 0))) ∧ Hid (Below w.heap.size w wr) ∧ Hid (w3.heap.size ≤ wr.heap.size)) (fun _ i _ => c.ins.length - (intOf i).toNat)
          case atStart => exact ⟨D, Nat.le_refl _, hDl, rfl, by rw [Nat.sub_self, List.take_zero, List.append_nil]; exact HO.out, KC1.out, KD1.out, KZ1.out, HB.out, HZ.out⟩
          case round =>
            clear HO KC1 KD1 KZ1 HB HZ z0 z1 z2 z3
            obtain ⟨j, hj1, hj2, rfl, HO, KC1, KD1, KZ1, HB, HZ⟩ := hrel
            obtain ⟨z0, z1, z2, z3⟩ := cd_block4 KC1.out
            by_cases hlt3 : j < c.ins.length
            · obtain ⟨b, o, rfl, -, hbw0, hat0⟩ := in_elem HI.out hlt3
              obtain ⟨c0, c1, c2, c3, c4, c5⟩ := hat0.frame (w' := wr) (HB.out.block b hbw0)
              have HX : Hid (c.ins.take k ++ d.ins ++ (c.ins.drop D).take (j + 1 - D) = (c.ins.take k ++ d.ins ++ (c.ins.drop D).take (j - D)) ++ [c.ins[j]]) := by
                have h1 : D + (j - D) = j := by omega
                have := drop_take_succ c.ins D (j - D) (by omega)
                show _ = _
                rw [show j + 1 - D = (j - D) + 1 by omega, this, List.append_assoc]
                simp only [h1]
                simp only [List.append_assoc]
              have hxb : (c.ins.take k ++ d.ins ++ (c.ins.drop D).take (j - D)).length ≤ 900 := by rw [List.length_append, List.length_append, List.length_take, List.length_take, List.length_drop]; omega
              clear hat0
              generalize c.ins[j] = x at *
              generalize c.ins.take k ++ d.ins ++ (c.ins.drop D).take (j - D) = X at *
              have hk0 : (0 : Int) ≤ (j : Int) := by omega
              have hk1 : (j : Int) < (c.ins.length : Int) := by omega
              go_wp2_with (first
                | (at_builtin; refine wpList_append_ev _ rfl _ _ 22 rfl _ _ rfl rfl _ (run_app1 wr infoIn rfl _ HO.out 54 (inCells x) x rfl (by omega) (by omega) HZ.out) ?_; rintro n6 w6 ⟨ow6, g6, -, _⟩; have B6 := Lib.hid (HB.out.grown g6 HB.out.size (fun k hk => by have := (HO.out.lt k hk).1; have := HZ3.out; omega)); have KC6 := Lib.hid (block_grown g6 KC1.out (fun e => by have := (HO.out.lt _ e.symm).1; have := HZ3.out; omega)); have KD6 := Lib.hid (block_grown g6 KD1.out (fun e => by have := (HO.out.lt _ e.symm).1; have := HZ3.out; omega)); have KZ6 := Lib.hid (block_grown g6 KZ1.out (fun e => by have := (HO.out.lt _ e.symm).1; have := HZ3.out; omega)); have HZ6 : Hid (w3.heap.size ≤ w6.heap.size) := Nat.le_trans HZ.out g6.size; have O6 := Lib.hid ow6; clear ow6 g6)
                | fail)
              go_roundw
              case rel => exact ⟨j + 1, by omega, by omega, by go_num, by show Own _ _ _ _ _ _ _; rw [HX.out]; exact O6.out, KC6.out, KD6.out, KZ6.out, B6.out, HZ6.out⟩
              case measure => simp [intOf]; omega
            · obtain rfl : j = c.ins.length := by omega
              have HXF : Hid (c.ins.take k ++ d.ins ++ (c.ins.drop D).take (c.ins.length - D) = repIns c d k m) := by
                show _ = _
                unfold repIns
                have e : (c.ins.drop D).take (c.ins.length - D) = c.ins.drop D := List.take_of_length_le (by rw [List.length_drop]; exact Nat.le_refl _)
                rw [e, HDm.out]
              rw [HXF.out] at HO
              generalize repIns c d k m = X at *
              obtain ⟨va, vc, hv⟩ := HO.out.form
              rw [hv] at HO ⊢
              clear hv z0 z1 z2 z3
              obtain ⟨z0, z1, z2, z3⟩ := cd_block4 KC1.out
              have zf : wr.frozen? ⟨w.heap.size, 2, none⟩ = false := frozen_of_block KC1.out
              have KC7 : Hid ((wr.setCell ⟨w.heap.size, 2, none⟩ (.slice va X.length vc)).heap[w.heap.size]? = some (.cells #[.int .i64 c.width, .int .i64 c.regs, .slice va X.length vc, .slice oa c.out.length oc] 25 (0, 0))) := by
                have h9 := KC1.out
                show _ = _
                simp [World.setCell, Array.getElem?_modify, h9]
              have KZ7 : Hid ((wr.setCell ⟨w.heap.size, 2, none⟩ (.slice va X.length vc)).heap[w.heap.size + 1 + 1]? = some (.cells (cellsC cd0 none 0 none 0) 25 (0, 0))) := block_far KZ1.out _ (by show w.heap.size + 1 + 1 ≠ w.heap.size; omega)
              obtain ⟨x0, x1, x2, x3⟩ := cd_block4 KC7.out
              obtain ⟨y0, y1, y2, y3⟩ := cd_block4 KZ7.out
              have yf : ∀ i, (wr.setCell ⟨w.heap.size, 2, none⟩ (.slice va X.length vc)).frozen? ⟨w.heap.size + 1 + 1, i, none⟩ = false := fun i => frozen_of_block KZ7.out
              go_wp2_with fail
              refine bodyPost_ret_block2 (cs := #[.int .i64 c.width, .int .i64 c.regs, .slice va X.length vc, .slice oa c.out.length oc]) (w.heap.size + 1 + 1) (0, 0) _ rfl rfl rfl (four_set' KZ7.out _ _ _ _) Tryd.underlying25 rfl (by kernel_rfl) rfl ⟨⟨va, vc, oa, oc⟩, ?_, ?_, four_below (HB.out.setCell (by show w.heap.size ≤ w.heap.size; omega) _) (by omega) _ _ _ _⟩
              · rw [HRM.out, HER.out]
                rfl
              · rw [HRM.out]
                refine ⟨?_, ?_⟩
                · refine Rd.mono (fun _ _ _ => trivial) (Own.rd' (HO.out.same ((Same.setCell wr _ (fun b hb => ?_)).trans (four_same (fun b hb => ?_) _ _ _ _))))
                  · rcases hb with hb | hb
                    · exact hb.elim
                    · have h1 := (HO.out.lt b hb.symm).1
                      have h3 := HZ3.out
                      show b ≠ w.heap.size
                      omega
                  · rcases hb with hb | hb
                    · exact hb.elim
                    · have h1 := (HO.out.lt b hb.symm).1
                      have h3 := HZ3.out
                      show b ≠ w.heap.size + 1 + 1
                      omega
                · refine Rd.mono (fun _ _ _ => trivial) ((HC.out.out.lt.frame (Same.below HB.out)).frame ((Same.setCell wr _ (fun b hb => ?_)).trans (four_same (fun b hb => ?_) _ _ _ _)))
                  · have h1 : b < w.heap.size := hb
                    show b ≠ w.heap.size
                    omega
                  · have h1 : b < w.heap.size := hb
                    show b ≠ w.heap.size + 1 + 1
                    omega
end Go.Proofs.Sat
