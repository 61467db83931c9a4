/- The walk of live.Replace. -/
import Derived.Test.YthffbnfbjjnabaaDoorLvG
import Derived.Test.YthffbnfbjjnabaaDoorLvE
set_option linter.unusedVariables false
set_option linter.unusedSimpArgs false
namespace Go.Proofs.Sat
open Go Go.RowKit
set_option maxRecDepth 20000 in
set_option maxHeartbeats 4000000 in
theorem live_Replace (S : Nat → Prop) (c d : Cd) (p q : CdAt) (f n : Int) (w : World) (hK : IsaT w) (hol : c.out.length ≤ 1000000) (h : CdRd S w c p) (h' : CdRd S w d q) (hf : -9223372036854775808 ≤ f ∧ f ≤ 9223372036854775807) (hn : -9223372036854775808 ≤ n ∧ n ≤ 9223372036854775807) : Calls Tryd.prog 23 #[cdVal c p, .int .i64 f, .int .i64 n, cdVal d q] w fun e w' => ∃ p', e = .returned (.tuple #[cdVal (repC c d f n) p', .int .i64 (repErr c d f n)]) ∧ CdRd (fun b => w.heap.size ≤ b) w' (repC c d f n) p' ∧ Below w.heap.size w w' := by
  obtain ⟨ia, ic, oa, oc⟩ := p
  obtain ⟨ja, jc, qa, qc⟩ := q
  have BW := Lib.hid (below_alloc (below_alloc (below_alloc (Below.refl w.heap.size w) (.cells (cellsC c ia ic oa oc) 25)) (.cells (cellsC d ja jc qa qc) 25)) (.cells (cellsC cd0 none 0 none 0) 25))
  have KC := Lib.hid (block_alloc (block_alloc (heap_alloc_new w (.cells (cellsC c ia ic oa oc) 25)) (.cells (cellsC d ja jc qa qc) 25)) (.cells (cellsC cd0 none 0 none 0) 25))
  have KD := Lib.hid (block_alloc (block_at1 w (.cells (cellsC c ia ic oa oc) 25) (.cells (cellsC d ja jc qa qc) 25)) (.cells (cellsC cd0 none 0 none 0) 25))
  have KZ : Hid ((((w.alloc (.cells (cellsC c ia ic oa oc) 25)).alloc (.cells (cellsC d ja jc qa qc) 25)).alloc (.cells (cellsC cd0 none 0 none 0) 25)).heap[w.heap.size + 1 + 1]? = some (.cells (cellsC cd0 none 0 none 0) 25 (0, 0))) := block_at2 w _ _ _
  have HC := Lib.hid h
  have HD := Lib.hid h'
  have HI : Hid (Rd kIn S w ia ic c.ins) := h.ins
  have HJ : Hid (Rd kIn S w ja jc d.ins) := h'.ins
  have hil := h.ins.le
  have hjl := h'.ins.le
  unfold cdVal
  go_enter Tryd.func23, Tryd.ntmps23
  go_wp2_with fail
  refine (live_refused S c ⟨ia, ic, oa, oc⟩ f n _ (hK.below BW.out) (h.frame (Same.below BW.out)) hf hn).mono ?_
  rintro e w2 ⟨rfl, b2⟩
  have B2 := Lib.hid (below_both BW.out b2)
  have KC2 := Lib.hid (block_below b2 KC.out)
  have KD2 := Lib.hid (block_below b2 KD.out)
  have KZ2 := Lib.hid (block_below b2 KZ.out)
  clear b2 h h'
  by_cases he : winErr c f n = 0
  case neg =>
    have t0 : (winErr c f n != 0) = true := by simpa using he
    have HER : Hid (repErr c d f n = winErr c f n) := by show _ = _; unfold repErr; rw [if_pos he]
    have HRM : Hid (repC c d f n = cd0) := by show _ = _; unfold repC; rw [if_neg (by rw [HER.out]; exact he)]
    clear he
    obtain ⟨y0, y1, y2, y3⟩ := cd_block4 KZ2.out
    have zf : ∀ i, w2.frozen? ⟨w.heap.size + 1 + 1, i, none⟩ = false := fun i => frozen_of_block KZ2.out
    go_wp2_with fail
    refine bodyPost_ret_block2 (cs := cellsC cd0 none 0 none 0) (w.heap.size + 1 + 1) (0, 0) _ rfl rfl rfl (four_set' KZ2.out _ _ _ _) Tryd.underlying25 rfl (by kernel_rfl) rfl ⟨⟨none, 0, none, 0⟩, by rw [HRM.out, HER.out]; rfl, ?_, four_below B2.out (by omega) _ _ _ _⟩
    rw [HRM.out]
    exact ⟨Rd.nil _ _ _ _ _ (by decide), Rd.nil _ _ _ _ _ (by decide)⟩
  have t0 : (winErr c f n != 0) = false := by simpa using he
  obtain ⟨hce, hf0, hn0, hfn⟩ := winErr_zero he
  have HE0 := Lib.hid he
  obtain ⟨F, rfl⟩ := Int.eq_ofNat_of_zero_le hf0
  obtain ⟨m, rfl⟩ := Int.eq_ofNat_of_zero_le hn0
  have HOK := Lib.hid (cd_ok hce)
  have hlen := HOK.out.len
  have hFm : F + m ≤ c.ins.length := by omega
  have CK := Lib.hid (isa_Check S d ⟨ja, jc, qa, qc⟩ w2 (hK.below B2.out) (HD.out.frame (Same.below B2.out)))
  obtain ⟨z0, z1, z2, z3⟩ := cd_block4 KD2.out
  clear he hce hf hn hf0 hn0 hfn
  go_wp2_with fail
  refine CK.out.mono ?_
  rintro e w3 ⟨rfl, b3⟩
  have B3 := Lib.hid (below_both B2.out b3)
  have KC3 := Lib.hid (block_below b3 KC2.out)
  have KD3 := Lib.hid (block_below b3 KD2.out)
  have KZ3 := Lib.hid (block_below b3 KZ2.out)
  clear b3 z0 z1 z2 z3 CK
  obtain ⟨y0, y1, y2, y3⟩ := cd_block4 KZ3.out
  have zf : ∀ i, w3.frozen? ⟨w.heap.size + 1 + 1, i, none⟩ = false := fun i => frozen_of_block KZ3.out
  by_cases hd : cdErr d = 0
  case neg =>
    have t1 : (cdErr d != 0) = true := by simpa using hd
    have HER : Hid (repErr c d F m = cdErr d) := by show _ = _; unfold repErr; rw [if_neg (by rw [HE0.out]; simp), if_pos hd]
    have HRM : Hid (repC c d F m = cd0) := by show _ = _; unfold repC; rw [if_neg (by rw [HER.out]; exact hd)]
    clear hd
    go_wp2_with fail
    refine bodyPost_ret_block2 (cs := cellsC cd0 none 0 none 0) (w.heap.size + 1 + 1) (0, 0) _ rfl rfl rfl (four_set' KZ3.out _ _ _ _) Tryd.underlying25 rfl (by kernel_rfl) rfl ⟨⟨none, 0, none, 0⟩, by rw [HRM.out, HER.out]; rfl, ?_, four_below B3.out (by omega) _ _ _ _⟩
    rw [HRM.out]
    exact ⟨Rd.nil _ _ _ _ _ (by decide), Rd.nil _ _ _ _ _ (by decide)⟩
  have t1 : (cdErr d != 0) = false := by simpa using hd
  have HDK := Lib.hid (cd_ok hd)
  have hdl := HDK.out.len
  have HD0 := Lib.hid hd
  clear hd
  obtain ⟨z0, z1, z2, z3⟩ := cd_block4 KD3.out
  obtain ⟨x0, x1, x2, x3⟩ := cd_block4 KC3.out
  by_cases hw : d.width ≠ c.width ∨ d.regs ≠ c.regs
  case pos =>
    have HER : Hid (repErr c d F m = 3) := by show _ = _; unfold repErr; rw [if_neg (by rw [HE0.out]; simp), if_neg (by rw [HD0.out]; simp), if_pos hw]
    have HRM : Hid (repC c d F m = cd0) := by show _ = _; unfold repC; rw [if_neg (by rw [HER.out]; decide)]
    by_cases hw1 : d.width = c.width
    · have hw2 : (d.regs != c.regs) = true := by rcases hw with hw | hw; (· exact absurd hw1 hw); (· simpa using hw)
      have hw3 : (d.width != c.width) = false := by simpa using hw1
      clear hw hw1
      go_wp2_with fail
      refine bodyPost_ret_block2 (cs := cellsC cd0 none 0 none 0) (w.heap.size + 1 + 1) (0, 0) _ rfl rfl rfl (four_set' KZ3.out _ _ _ _) Tryd.underlying25 rfl (by kernel_rfl) rfl ⟨⟨none, 0, none, 0⟩, by rw [HRM.out, HER.out]; rfl, ?_, four_below B3.out (by omega) _ _ _ _⟩
      rw [HRM.out]
      exact ⟨Rd.nil _ _ _ _ _ (by decide), Rd.nil _ _ _ _ _ (by decide)⟩
    · have hw3 : (d.width != c.width) = true := by simpa using hw1
      clear hw hw1
      go_wp2_with fail
      refine bodyPost_ret_block2 (cs := cellsC cd0 none 0 none 0) (w.heap.size + 1 + 1) (0, 0) _ rfl rfl rfl (four_set' KZ3.out _ _ _ _) Tryd.underlying25 rfl (by kernel_rfl) rfl ⟨⟨none, 0, none, 0⟩, by rw [HRM.out, HER.out]; rfl, ?_, four_below B3.out (by omega) _ _ _ _⟩
      rw [HRM.out]
      exact ⟨Rd.nil _ _ _ _ _ (by decide), Rd.nil _ _ _ _ _ (by decide)⟩
  have hw2 : (d.regs != c.regs) = false := by simp only [not_or, Decidable.not_not] at hw; simpa using hw.2
  have hw3 : (d.width != c.width) = false := by simp only [not_or, Decidable.not_not] at hw; simpa using hw.1
  obtain ⟨E, hE⟩ : ∃ E, E = c.ins.length - m := ⟨_, rfl⟩
  have hs1 : IntKind.i64.wrap ((c.ins.length : Int) - (m : Int)) = (E : Int) := by rw [IntWalk.i64_in _ (by omega)]; omega
  obtain ⟨T, hT⟩ : ∃ T, T = E + d.ins.length := ⟨_, rfl⟩
  have hs2 : IntKind.i64.wrap ((E : Int) + (d.ins.length : Int)) = (T : Int) := by rw [IntWalk.i64_in _ (by omega)]; omega
  by_cases h256 : 256 < T
  case pos =>
    have h256' : (256 : Int) < (T : Int) := by omega
    have HER : Hid (repErr c d F m = 7) := by show _ = _; unfold repErr; rw [if_neg (by rw [HE0.out]; simp), if_neg (by rw [HD0.out]; simp), if_neg hw, if_pos (by omega)]
    have HRM : Hid (repC c d F m = cd0) := by show _ = _; unfold repC; rw [if_neg (by rw [HER.out]; decide)]
    clear hw hE hT h256
    go_wp2_with fail
    refine bodyPost_ret_block2 (cs := cellsC cd0 none 0 none 0) (w.heap.size + 1 + 1) (0, 0) _ rfl rfl rfl (four_set' KZ3.out _ _ _ _) Tryd.underlying25 rfl (by kernel_rfl) rfl ⟨⟨none, 0, none, 0⟩, by rw [HRM.out, HER.out]; rfl, ?_, four_below B3.out (by omega) _ _ _ _⟩
    rw [HRM.out]
    exact ⟨Rd.nil _ _ _ _ _ (by decide), Rd.nil _ _ _ _ _ (by decide)⟩
  have h256' : ¬ (256 : Int) < (T : Int) := by omega
  have HER : Hid (repErr c d F m = 0) := by show _ = _; unfold repErr; rw [if_neg (by rw [HE0.out]; simp), if_neg (by rw [HD0.out]; simp), if_neg hw, if_neg (by omega)]
  have HRM : Hid (repC c d F m = { c with ins := repIns c d F m }) := by show _ = _; unfold repC; rw [if_pos HER.out, Int.toNat_natCast, Int.toNat_natCast]
  have HTL : Hid (c.ins.length - m + d.ins.length ≤ 256) := by show _ ≤ _; omega
  clear hw hE hT h256
  have HZ3 : Hid (w.heap.size + 1 + 1 < w3.heap.size) := (Array.getElem?_eq_some_iff.1 KZ3.out).1
  obtain ⟨D, hD⟩ : ∃ D, D = F + m := ⟨_, rfl⟩
  have HDm := Lib.hid hD
  have hsum : IntKind.i64.wrap ((F : Int) + (m : Int)) = (D : Int) := by rw [IntWalk.i64_in _ (by omega)]; omega
  have hDl : D ≤ c.ins.length := by omega
  have hFl : F ≤ c.ins.length := by omega
  have hicap : c.ins.length ≤ ic := HI.out.1
  clear hD
  have CC := Lib.hid (isa_Copy S c ⟨ia, ic, oa, oc⟩ w3 (HC.out.frame (Same.below B3.out)) (by omega) (by omega))
  go_wp2_with fail
  refine CC.out.mono ?_
  rintro e w5 ⟨⟨ka, kc, ra, rc⟩, rfl, hc5, b5⟩
  have B5 := Lib.hid (below_both B3.out b5)
  have KC5 := Lib.hid (block_below b5 KC3.out)
  have KD5 := Lib.hid (block_below b5 KD3.out)
  have KZ5 := Lib.hid (block_below b5 KZ3.out)
  have HZ5 : Hid (w.heap.size + 1 + 1 < w5.heap.size) := (Array.getElem?_eq_some_iff.1 KZ5.out).1
  have O5 : Hid (Rd (Kd.int .i64) (fun b => w.heap.size + 1 + 1 < b ∧ b < w5.heap.size) w5 ra rc c.out) := hc5.out.mono (fun b h1 h2 => ⟨Nat.lt_of_lt_of_le HZ3.out h2, h1⟩)
  have KG6 := Lib.hid (heap_alloc_new w5 (.cells (cellsC c ka kc ra rc) 25))
  have B6 := Lib.hid (below_alloc B5.out (.cells (cellsC c ka kc ra rc) 25))
  have KC6 := Lib.hid (block_alloc KC5.out (.cells (cellsC c ka kc ra rc) 25))
  have KD6 := Lib.hid (block_alloc KD5.out (.cells (cellsC c ka kc ra rc) 25))
  have KZ6 := Lib.hid (block_alloc KZ5.out (.cells (cellsC c ka kc ra rc) 25))
  have O6 := Lib.hid (O5.out.frame (Same.alloc _ w5 (.cells (cellsC c ka kc ra rc) 25)))
  have HS6 : Hid (w5.heap.size + 1 ≤ (w5.alloc (.cells (cellsC c ka kc ra rc) 25)).heap.size) := by show _ ≤ _; simp
  clear b5 hc5 x0 x1 x2 x3 y0 y1 y2 y3 z0 z1 z2 z3 zf
  go_upto_region 12 with fail
  generalize w5.alloc (.cells (cellsC c ka kc ra rc) 25) = W6 at *
  generalize w5.heap.size = g at *
  have kf6 : W6.frozen? ⟨g, 2, none⟩ = false := frozen_of_block KG6.out
  obtain ⟨x0, x1, x2, x3⟩ := cd_block4 KG6.out
  have hg := HZ5.out
  have KG7 : Hid ((W6.setCell ⟨g, 2, none⟩ (.slice none 0 0)).heap[g]? = some (.cells #[.int .i64 c.width, .int .i64 c.regs, .slice none 0 0, .slice ra c.out.length rc] 25 (0, 0))) := by
    have h9 := KG6.out
    show _ = _
    simp [World.setCell, Array.getElem?_modify, h9]
  have KC7 : Hid ((W6.setCell ⟨g, 2, none⟩ (.slice none 0 0)).heap[w.heap.size]? = _) := block_far KC6.out _ (by show w.heap.size ≠ g; omega)
  have KD7 : Hid ((W6.setCell ⟨g, 2, none⟩ (.slice none 0 0)).heap[w.heap.size + 1]? = _) := block_far KD6.out _ (by show w.heap.size + 1 ≠ g; omega)
  have KZ7 : Hid ((W6.setCell ⟨g, 2, none⟩ (.slice none 0 0)).heap[w.heap.size + 1 + 1]? = _) := block_far KZ6.out _ (by show w.heap.size + 1 + 1 ≠ g; omega)
  have O7 := Lib.hid (O6.out.frame (Same.setCell W6 (p := ⟨g, 2, none⟩) (.slice none 0 0) (fun b hb => by have := hb.2; show b ≠ g; omega)))
  have B7 := Lib.hid (B6.out.setCell (p := ⟨g, 2, none⟩) (by show w.heap.size ≤ g; omega) (.slice none 0 0))
  have HS7 : Hid (g + 1 ≤ (W6.setCell ⟨g, 2, none⟩ (.slice none 0 0)).heap.size) := (Array.getElem?_eq_some_iff.1 KG7.out).1
  go_upto_region 13 with fail
  generalize W6.setCell ⟨g, 2, none⟩ (.slice none 0 0) = W7 at *
  clear x0 x1 x2 x3 kf6
  obtain ⟨A1, hcut1, hA1⟩ := cut_to kIn infoIn rfl ia c.ins.length ic F (F : Int) rfl (by omega)
  have HA1 := Lib.hid (hA1 S W7 c.ins hFl (HI.out.frame (Same.below B7.out)))
  have HX1 : Hid ((c.ins.take F).length = F) := by show _ = _; rw [List.length_take]; omega
  have HRI : Hid (repIns c d F m = c.ins.take F ++ d.ins ++ c.ins.drop D) := by show _ = _; rw [HDm.out]; rfl
  generalize c.ins.take F = X1 at *
  clear hA1
  go_cut [] (fun wx => ∃ (va : Option Addr) (vc : Nat), Hid (wx.heap[g]? = some (.cells #[.int .i64 c.width, .int .i64 c.regs, .slice va X1.length vc, .slice ra c.out.length rc] 25 (0, 0))) ∧ Hid (Own kIn 54 NoS wx (g + 1) (.slice va X1.length vc) X1) ∧ Hid (Rd (Kd.int .i64) (fun b => w.heap.size + 1 + 1 < b ∧ b < g) wx ra rc c.out) ∧ Hid (wx.heap[w.heap.size]? = some (.cells (cellsC c ia ic oa oc) 25 (0, 0))) ∧ Hid (wx.heap[w.heap.size + 1]? = some (.cells (cellsC d ja jc qa qc) 25 (0, 0))) ∧ Hid (wx.heap[w.heap.size + 1 + 1]? = some (.cells (cellsC cd0 none 0 none 0) 25 (0, 0))) ∧ Hid (Below w.heap.size w wx))
  case first =>
    obtain ⟨z0, z1, z2, z3⟩ := cd_block4 KC7.out
    obtain ⟨x0, x1, x2, x3⟩ := cd_block4 KG7.out
    go_region_law
      (first
      | ((with_reducible refine gate_s (.tmp 59) (.tmp 63) rfl ?_)
         refine step_append_ev _ rfl (.tmp 59) (.tmp 63) 22 rfl _ _ rfl rfl _ (run_app_rd (d := kIn) W7.drew infoIn rfl _ (Own.nil kIn 54 NoS W7.drew (g + 1)) A1 ic F X1 HX1.out (HA1.out.frame (Same.drewN _ W7 1)) kIn_any (by simp; omega) (by simp; omega) HS7.out) ?_
         rintro n8 w8 ⟨ow8, g8, -⟩
         have ow8' : Own kIn 54 NoS w8 (g + 1) n8 X1 := by simpa using ow8
         obtain ⟨a8, c8, rfl⟩ := ow8'.form
         have O8w := Lib.hid ow8'
         have G8 := Lib.hid g8
         have KG8 := Lib.hid (block_grown g8 (w := W7.drew) KG7.out (by simp [Value.ownBlock]))
         have kf8 : w8.frozen? ⟨g, 2, none⟩ = false := frozen_of_block KG8.out
         obtain ⟨r0, r1, r2, r3⟩ := cd_block4 KG8.out
         clear ow8 ow8' g8)
      | fail)
    all_goals
      go_wp2_with fail
      go_meet
      case rel =>
        refine ⟨a8, c8, ?_, ?_, ?_, ?_, ?_, ?_, ?_⟩
        · have h9 := KG8.out
          show _ = _
          simp [World.setCell, Array.getElem?_modify, h9]
        · exact Lib.hid (O8w.out.same (Same.setCell w8 _ (fun b hb => by rcases hb with hb | hb; (· exact hb.elim); (· have := (O8w.out.lt b hb.symm).1; show b ≠ g; omega))))
        · exact Lib.hid (((O7.out.frame (Same.drewN _ W7 1)).frame (Same.grown G8.out (fun b hb e => by cases e))).frame (Same.setCell w8 _ (fun b hb => by have := hb.2; show b ≠ g; omega)))
        · exact Lib.hid (block_far (block_grown G8.out (w := W7.drew) KC7.out (by simp [Value.ownBlock])) _ (by show w.heap.size ≠ g; omega))
        · exact Lib.hid (block_far (block_grown G8.out (w := W7.drew) KD7.out (by simp [Value.ownBlock])) _ (by show w.heap.size + 1 ≠ g; omega))
        · exact Lib.hid (block_far (block_grown G8.out (w := W7.drew) KZ7.out (by simp [Value.ownBlock])) _ (by show w.heap.size + 1 + 1 ≠ g; omega))
        · exact Lib.hid (((below_drewN B7.out 1).grown G8.out B7.out.size (fun k hk => by cases hk)).setCell (by show w.heap.size ≤ g; omega) _)
  case rest =>
    obtain ⟨va, vc, KG9, O9, R9, KC9, KD9, KZ9, B9⟩ := hcut
    obtain ⟨w9, hw9⟩ : ∃ w9, w9 = wc := ⟨_, rfl⟩
    subst hw9
    clear KG7 KC7 KD7 KZ7 O7 B7 HS7 HA1
    obtain ⟨X2, hX2⟩ : ∃ X2, X1 ++ d.ins = X2 := ⟨_, rfl⟩
    have HX2 := Lib.hid hX2
    have hX2l : X2.length ≤ 600 := by rw [← hX2, List.length_append, HX1.out]; omega
    obtain ⟨x0, x1, x2, x3⟩ := cd_block4 KG9.out
    obtain ⟨z0, z1, z2, z3⟩ := cd_block4 KD9.out
    have HS9 : Hid (g + 1 ≤ w9.heap.size) := (Array.getElem?_eq_some_iff.1 KG9.out).1
    have HX1L : Hid (X1.length ≤ 256) := by show _ ≤ _; rw [HX1.out]; omega
    clear hX2
    go_upto_region 15 with (first
      | (at_builtin; refine wpList_append_ev _ rfl _ _ 22 rfl _ _ rfl rfl _ (run_app_rd (d := kIn) w9 infoIn rfl _ O9.out ja jc d.ins.length d.ins rfl (HJ.out.frame (Same.below B9.out)) kIn_any (by have := HX1L.out; omega) (by have := HX1L.out; omega) HS9.out) ?_; rintro n10 w10 ⟨ow10, g10, -⟩; rw [HX2.out] at ow10; obtain ⟨a10, c10, rfl⟩ := ow10.form; have O10w := Lib.hid ow10; have G10 := Lib.hid g10; have KG10 := Lib.hid (block_grown g10 KG9.out (fun e => by have := (O9.out.lt _ e.symm).1; omega)); have kf10 : w10.frozen? ⟨g, 2, none⟩ = false := frozen_of_block KG10.out; obtain ⟨r0, r1, r2, r3⟩ := cd_block4 KG10.out; clear ow10 g10)
      | fail)
    have HRW : Hid (∀ k, (Value.slice va X1.length vc).ownBlock = some k → g + 1 ≤ k) := fun k hk => (O9.out.lt k hk).1
    have KG11 : Hid ((w10.setCell ⟨g, 2, none⟩ (.slice a10 X2.length c10)).heap[g]? = some (.cells #[.int .i64 c.width, .int .i64 c.regs, .slice a10 X2.length c10, .slice ra c.out.length rc] 25 (0, 0))) := by
      have h9 := KG10.out
      show _ = _
      simp [World.setCell, Array.getElem?_modify, h9]
    have KC11 : Hid ((w10.setCell ⟨g, 2, none⟩ (.slice a10 X2.length c10)).heap[w.heap.size]? = _) := block_far (block_grown G10.out KC9.out (fun e => by have := HRW.out _ e.symm; omega)) _ (by show w.heap.size ≠ g; omega)
    have KZ11 : Hid ((w10.setCell ⟨g, 2, none⟩ (.slice a10 X2.length c10)).heap[w.heap.size + 1 + 1]? = _) := block_far (block_grown G10.out KZ9.out (fun e => by have := HRW.out _ e.symm; omega)) _ (by show w.heap.size + 1 + 1 ≠ g; omega)
    have R11 := Lib.hid ((R9.out.frame (Same.grown G10.out (fun b hb e => by have := HRW.out b e.symm; have := hb.2; omega))).frame (Same.setCell w10 (p := ⟨g, 2, none⟩) (.slice a10 X2.length c10) (fun b hb => by have := hb.2; show b ≠ g; omega)))
    have O11 := Lib.hid (O10w.out.same (Same.setCell w10 (p := ⟨g, 2, none⟩) (.slice a10 X2.length c10) (fun b hb => by rcases hb with hb | hb; (· exact hb.elim); (· have := (O10w.out.lt b hb.symm).1; show b ≠ g; omega))))
    have B11 := Lib.hid ((B9.out.grown G10.out B9.out.size (fun k hk => by have := HRW.out k hk; omega)).setCell (p := ⟨g, 2, none⟩) (by show w.heap.size ≤ g; omega) (.slice a10 X2.length c10))
    have HS11 : Hid (g + 1 ≤ (w10.setCell ⟨g, 2, none⟩ (.slice a10 X2.length c10)).heap.size) := (Array.getElem?_eq_some_iff.1 KG11.out).1
    generalize w10.setCell ⟨g, 2, none⟩ (.slice a10 X2.length c10) = W at *
    clear r0 r1 r2 r3 kf10 x0 x1 x2 x3 z0 z1 z2 z3 KG9 O9 R9 KC9 KD9 KZ9 B9 G10 O10w KG10
    obtain ⟨A3, hcut3, hA3⟩ := cut_off kIn infoIn rfl ia c.ins.length ic D (D : Int) rfl hDl
    have HA3 := Lib.hid (hA3 S W c.ins rfl (HI.out.frame (Same.below B11.out)))
    have HY3 : Hid ((c.ins.drop D).length = c.ins.length - D) := List.length_drop
    obtain ⟨X3, hX3⟩ : ∃ X3, X2 ++ c.ins.drop D = X3 := ⟨_, rfl⟩
    have HX3 := Lib.hid hX3
    have HRR : Hid (repIns c d F m = X3) := by show _ = _; rw [HRI.out, HX2.out, HX3.out]
    clear hA3 hX3
    obtain ⟨x0, x1, x2, x3⟩ := cd_block4 KG11.out
    obtain ⟨z0, z1, z2, z3⟩ := cd_block4 KC11.out
    go_region_law
      (first
      | ((with_reducible refine gate_s (.tmp 73) (.tmp 79) rfl ?_)
         refine step_append_ev _ rfl (.tmp 73) (.tmp 79) 22 rfl _ _ rfl rfl _ (run_app_rd (d := kIn) W.drew infoIn rfl _ (O11.out.drewN 1) A3 (ic - D) (c.ins.length - D) (c.ins.drop D) HY3.out (HA3.out.frame (Same.drewN _ W 1)) kIn_any (by omega) (by omega) HS11.out) ?_
         rintro n12 w12 ⟨ow12, g12, -⟩
         rw [HX3.out] at ow12
         obtain ⟨a12, c12, rfl⟩ := ow12.form
         have O12w := Lib.hid ow12
         have G12 := Lib.hid g12
         have KG12 := Lib.hid (block_grown g12 (w := W.drew) KG11.out (fun e => by have := (O11.out.lt _ e.symm).1; omega))
         have kf12 : w12.frozen? ⟨g, 2, none⟩ = false := frozen_of_block KG12.out
         have KG13 : Hid ((w12.setCell ⟨g, 2, none⟩ (.slice a12 X3.length c12)).heap[g]? = some (.cells #[.int .i64 c.width, .int .i64 c.regs, .slice a12 X3.length c12, .slice ra c.out.length rc] 25 (0, 0))) := by
           have h9 := KG12.out
           show _ = _
           simp [World.setCell, Array.getElem?_modify, h9]
         have KZ13 : Hid ((w12.setCell ⟨g, 2, none⟩ (.slice a12 X3.length c12)).heap[w.heap.size + 1 + 1]? = _) := block_far (block_grown g12 (w := W.drew) KZ11.out (fun e => by have := (O11.out.lt _ e.symm).1; omega)) _ (by show w.heap.size + 1 + 1 ≠ g; omega)
         obtain ⟨r0, r1, r2, r3⟩ := cd_block4 KG12.out
         obtain ⟨q0, q1, q2, q3⟩ := cd_block4 KG13.out
         obtain ⟨y0, y1, y2, y3⟩ := cd_block4 KZ13.out
         have yf : ∀ i, (w12.setCell ⟨g, 2, none⟩ (.slice a12 X3.length c12)).frozen? ⟨w.heap.size + 1 + 1, i, none⟩ = false := fun i => frozen_of_block KZ13.out
         clear ow12 g12)
      | fail)
    all_goals
      have HRW2 : Hid (∀ k, (Value.slice a10 X2.length c10).ownBlock = some k → g + 1 ≤ k) := fun k hk => (O11.out.lt k hk).1
      go_wp2_with fail
      refine bodyPost_ret_block2 (cs := #[.int .i64 c.width, .int .i64 c.regs, .slice a12 X3.length c12, .slice ra c.out.length rc]) (w.heap.size + 1 + 1) (0, 0) _ rfl rfl rfl (four_set' KZ13.out _ _ _ _) Tryd.underlying25 rfl (by kernel_rfl) rfl ⟨⟨a12, c12, ra, rc⟩, ?_, ?_, four_below (((below_drewN B11.out 1).grown G12.out B11.out.size (fun k hk => by have := HRW2.out k hk; omega)).setCell (by show w.heap.size ≤ g; omega) _) (by omega) _ _ _ _⟩
      · rw [HRM.out, HER.out, HRR.out]
        rfl
      · rw [HRM.out, HRR.out]
        refine ⟨?_, ?_⟩
        · refine Rd.mono (fun b _ hb => by rcases hb with hb | hb; (· exact hb.elim); (· omega)) (Own.rd' (O12w.out.same ((Same.setCell w12 _ (fun b hb => ?_)).trans (four_same (fun b hb => ?_) _ _ _ _))))
          · rcases hb with hb | hb
            · exact hb.elim
            · have h1 := (O12w.out.lt b hb.symm).1
              show b ≠ g
              omega
          · rcases hb with hb | hb
            · exact hb.elim
            · have h1 := (O12w.out.lt b hb.symm).1
              show b ≠ w.heap.size + 1 + 1
              omega
        · refine Rd.mono (fun b _ hb => by have := hb.1; omega) (((R11.out.frame (Same.drewN _ W 1)).frame (Same.grown G12.out (fun b hb e => by have := HRW2.out b e.symm; have := hb.2; omega))).frame ((Same.setCell w12 _ (fun b hb => ?_)).trans (four_same (fun b hb => ?_) _ _ _ _)))
          · have h1 := hb.2
            show b ≠ g
            omega
          · have h1 := hb.1
            show b ≠ w.heap.size + 1 + 1
            omega
end Go.Proofs.Sat
