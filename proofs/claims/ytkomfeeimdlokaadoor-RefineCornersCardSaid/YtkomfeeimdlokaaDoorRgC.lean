/- The walk of refine.States. -/
import Derived.Test.YtkomfeeimdlokaaDoorRgB
import Derived.Test.YtkomfeeimdlokaaDoorLvP
set_option linter.unusedVariables false
set_option linter.unusedSimpArgs false
namespace Go.Proofs.Sat
open Go Go.RowKit
/-- The error of two programs that are compared. -/
def cmpErr (c d : Cd) : Int := if cdErr c ≠ 0 then cdErr c else if cdErr d ≠ 0 then cdErr d else if c.width ≠ d.width ∨ c.regs ≠ d.regs ∨ c.out ≠ d.out then 1 else 0
/-- The inputs of both. -/
def inp2 (c d : Cd) : List Int := ofL (inpL c ++ inpL d)
def stsErr (c d : Cd) : Int := if cmpErr c d ≠ 0 then cmpErr c d else if 16 < c.width * ((inp2 c d).length : Int) then 7 else 0
def stsL (c d : Cd) : List Int := if stsErr c d = 0 then inp2 c d else []
def stsN (c d : Cd) : Nat := if stsErr c d = 0 then 2 ^ (c.width.toNat * (inp2 c d).length) else 0
theorem ret_three {v v' : Value} {k j : IntKind} {a b a' b' : Int} (h0 : v = v') (h1 : a = a') (h2 : b = b') : Ending.returned (.tuple #[v, .int k a, .int j b]) = .returned (.tuple #[v', .int k a', .int j b']) := by rw [h0, h1, h2]
theorem split_length (x : Int) (z : List Int) : (z.filter (fun y => decide (y < x))).length + (z.filter (fun y => decide (¬ y < x))).length = z.length := by
  induction z with
  | nil => rfl
  | cons a z ihz =>
    rw [List.filter_cons, List.filter_cons]
    by_cases ha : a < x
    · rw [if_pos (by simpa using ha), if_neg (by simpa using ha), List.length_cons, List.length_cons]; omega
    · rw [if_neg (by simpa using ha), if_pos (by simpa using ha), List.length_cons, List.length_cons]; omega
theorem ins_length (r : List Int) (x : Int) : (ins r x).length ≤ r.length + 1 := by
  unfold ins
  split
  · omega
  · have := split_length x r
    rw [List.length_append, List.length_cons]
    omega
theorem ofL_length (l : List Int) : (ofL l).length ≤ l.length := by
  have h : ∀ (l r : List Int), (l.foldl ins r).length ≤ r.length + l.length := by
    intro l
    induction l with
    | nil => intro r; simp
    | cons x l ih => intro r; rw [List.foldl_cons, List.length_cons]; have h1 := ih (ins r x); have h2 := ins_length r x; omega
  have := h l []
  unfold ofL
  simpa using this
theorem inp2_length (c d : Cd) : (inp2 c d).length ≤ 16 := by
  unfold inp2
  have h1 := ofL_length (inpL c ++ inpL d)
  have h2 := inpL_length c
  have h3 := inpL_length d
  rw [List.length_append] at h1
  omega
abbrev cells8C (c d : Cd) (ia : Option Addr) (ic : Nat) (oa : Option Addr) (oc : Nat) (ja : Option Addr) (jc : Nat) (qa : Option Addr) (qc : Nat) : Array Value := #[.int .i64 c.width, .int .i64 c.regs, .slice ia c.ins.length ic, .slice oa c.out.length oc, .int .i64 d.width, .int .i64 d.regs, .slice ja d.ins.length jc, .slice qa d.out.length qc]
theorem pow_i64 {m : Nat} (h : m ≤ 16) : wrap64 ((2 : Int) ^ min m 64) = ((2 ^ m : Nat) : Int) := by
  have h1 : (2 : Nat) ^ m ≤ 65536 := by have := Nat.pow_le_pow_right (show 0 < 2 by omega) h; simpa using this
  have h2 : ((2 : Int) ^ m) = ((2 ^ m : Nat) : Int) := by simp
  rw [show min m 64 = m by omega, h2]
  generalize 2 ^ m = y at *
  rw [IntWalk.wrap64_in _ (by omega)]
theorem cd_block8 {w : World} {g : Nat} {t : TypeId} {v0 v1 v2 v3 v4 v5 v6 v7 : Value} (h : w.heap[g]? = some (.cells #[v0, v1, v2, v3, v4, v5, v6, v7] t (0, 0))) : (w.cell? ⟨g, 0, none⟩ = some v0 ∧ w.cell? ⟨g, 1, none⟩ = some v1 ∧ w.cell? ⟨g, 2, none⟩ = some v2 ∧ w.cell? ⟨g, 3, none⟩ = some v3) ∧ (w.cell? ⟨g, 4, none⟩ = some v4 ∧ w.cell? ⟨g, 5, none⟩ = some v5 ∧ w.cell? ⟨g, 6, none⟩ = some v6 ∧ w.cell? ⟨g, 7, none⟩ = some v7) :=
  ⟨⟨cell_of_row _ _ 0 _ _ _ h, cell_of_row _ _ 1 _ _ _ h, cell_of_row _ _ 2 _ _ _ h, cell_of_row _ _ 3 _ _ _ h⟩, ⟨cell_of_row _ _ 4 _ _ _ h, cell_of_row _ _ 5 _ _ _ h, cell_of_row _ _ 6 _ _ _ h, cell_of_row _ _ 7 _ _ _ h⟩⟩
set_option maxRecDepth 20000 in
set_option maxHeartbeats 4000000 in
theorem refine_States (S : Nat → Prop) (c d : Cd) (p q : CdAt) (w : World) (hK : IsaT w) (h : CdRd S w c p) (h' : CdRd S w d q) :
    Calls Tryd.prog 16 #[cdVal c p, cdVal d q] w fun e w' => ∃ v, e = .returned (.tuple #[v, .int .i64 (stsN c d : Int), .int .i64 (stsErr c d)]) ∧ Own (Kd.int .i64) 3 NoS w' w.heap.size v (stsL c d) ∧ Below w.heap.size w w' := by
  have CC := Lib.hid (fun W (b : Below w.heap.size w W) => isa_Check S c p W (hK.below b) (h.frame (Same.below b)))
  have CD := Lib.hid (fun W (b : Below w.heap.size w W) => isa_Check S d q W (hK.below b) (h'.frame (Same.below b)))
  have CI := Lib.hid (fun W (b : Below w.heap.size w W) => live_Inputs2 S c d p q W (hK.below b) (h.frame (Same.below b)) (h'.frame (Same.below b)))
  have CE := Lib.hid (fun W (b : Below w.heap.size w W) => eq_ints S S p.oa q.oa p.oc q.oc c.out d.out W (h.out.frame (Same.below b)) (h'.out.frame (Same.below b)))
  obtain ⟨ia, ic, oa, oc⟩ := p
  obtain ⟨ja, jc, qa, qc⟩ := q
  have BW := Lib.hid (below_alloc (below_alloc (Below.refl w.heap.size w) (.cells (cellsC c ia ic oa oc) 38)) (.cells (cellsC d ja jc qa qc) 38))
  have KC := Lib.hid (block_alloc (heap_alloc_new w (.cells (cellsC c ia ic oa oc) 38)) (.cells (cellsC d ja jc qa qc) 38))
  have KD := Lib.hid (block_at1 w (.cells (cellsC c ia ic oa oc) 38) (.cells (cellsC d ja jc qa qc) 38))
  have hol := h.out.le
  have hil := h.ins.le
  have hql := h'.out.le
  have hjl := h'.ins.le
  clear h h' hK
  unfold cdVal
  go_enter Tryd.func16, Tryd.ntmps16
  obtain ⟨z0, z1, z2, z3⟩ := cd_block4 KC.out
  obtain ⟨y0, y1, y2, y3⟩ := cd_block4 KD.out
  go_wp2_with fail
  have KT := Lib.hid (block_at2 w (.cells (cellsC c ia ic oa oc) 38) (.cells (cellsC d ja jc qa qc) 38) (.cells (cells8C c d ia ic oa oc ja jc qa qc) 38))
  have BT := Lib.hid (below_alloc BW.out (.cells (cells8C c d ia ic oa oc ja jc qa qc) 38))
  have KCT := Lib.hid (block_alloc KC.out (.cells (cells8C c d ia ic oa oc ja jc qa qc) 38))
  have KDT := Lib.hid (block_alloc KD.out (.cells (cells8C c d ia ic oa oc ja jc qa qc) 38))
  have HSZ : Hid (w.heap.size + 3 = (((w.alloc (.cells (cellsC c ia ic oa oc) 38)).alloc (.cells (cellsC d ja jc qa qc) 38)).alloc (.cells (cells8C c d ia ic oa oc ja jc qa qc) 38)).heap.size) := by show _ = _; simp
  clear z0 z1 z2 z3 y0 y1 y2 y3 BW KC KD
  generalize ((w.alloc (.cells (cellsC c ia ic oa oc) 38)).alloc (.cells (cellsC d ja jc qa qc) 38)).alloc (.cells (cells8C c d ia ic oa oc ja jc qa qc) 38) = W0 at *
  go_loopw [16] (fun i wr => ∃ k : Int, (k = 0 ∨ k = 1 ∨ k = 2) ∧ i = .int .i64 k ∧ Hid (1 ≤ k → cdErr c = 0) ∧ Hid (2 ≤ k → cdErr d = 0) ∧ Hid (Below W0.heap.size W0 wr)) (fun i _ => 2 - (intOf i).toNat)
  case atStart => exact ⟨0, .inl rfl, rfl, (fun h => absurd h (by decide)), (fun h => absurd h (by decide)), Below.refl _ _⟩
  case round =>
    obtain ⟨k, hk, rfl, E1, E2, B1⟩ := hrel
    have BB := Lib.hid (below_both BT.out B1.out)
    have KT1 := Lib.hid (block_below B1.out KT.out)
    obtain ⟨⟨z0, z1, z2, z3⟩, ⟨y0, y1, y2, y3⟩⟩ := cd_block8 KT1.out
    have BA := Lib.hid (below_alloc BB.out (.cells (cellsC c ia ic oa oc) 38))
    have BA' := Lib.hid (below_alloc BB.out (.cells (cellsC d ja jc qa qc) 38))
    rcases hk with rfl | rfl | rfl
    · go_wp2_with fail
      refine (CC.out _ BA.out).mono ?_
      rintro e w2 ⟨rfl, b2⟩
      have B2 := Lib.hid (below_both BA.out b2)
      have B3 := Lib.hid (below_both (below_alloc B1.out _) b2)
      clear b2 z0 z1 z2 z3 y0 y1 y2 y3 BA BA'
      by_cases he : cdErr c = 0
      · have t0 : (cdErr c != 0) = false := by simpa using he
        have HE0 := Lib.hid he
        clear he
        go_wp2_with fail
        go_roundw
        case rel => exact ⟨1, .inr (.inl rfl), by go_num, fun _ => HE0.out, fun h => absurd h (by decide), B3.out⟩
        case measure => decide
      · have t0 : (cdErr c != 0) = true := by simpa using he
        have HS : Hid (stsErr c d = cdErr c) := by show _ = _; unfold stsErr; rw [show cmpErr c d = cdErr c from by unfold cmpErr; rw [if_pos he]]; exact if_pos he
        have HZ : Hid (stsErr c d ≠ 0) := by show _ ≠ _; rw [HS.out]; exact he
        clear he
        go_wp2_with fail
        go_ret3
        refine ⟨_, ret_three rfl ?_ ?_, ?_, B2.out⟩
        · unfold stsN; rw [if_neg HZ.out]; rfl
        · rw [HS.out]
        · unfold stsL; rw [if_neg HZ.out]; exact Own.nil _ _ _ _ _
    · go_wp2_with fail
      refine (CD.out _ BA'.out).mono ?_
      rintro e w2 ⟨rfl, b2⟩
      have B2 := Lib.hid (below_both BA'.out b2)
      have B3 := Lib.hid (below_both (below_alloc B1.out _) b2)
      clear b2 z0 z1 z2 z3 y0 y1 y2 y3 BA BA'
      by_cases he : cdErr d = 0
      · have t0 : (cdErr d != 0) = false := by simpa using he
        have HE0 := Lib.hid he
        clear he
        go_wp2_with fail
        go_roundw
        case rel => exact ⟨2, .inr (.inr rfl), by go_num, fun _ => E1.out (by decide), fun _ => HE0.out, B3.out⟩
        case measure => decide
      · have t0 : (cdErr d != 0) = true := by simpa using he
        have HS : Hid (stsErr c d = cdErr d) := by show _ = _; unfold stsErr; rw [show cmpErr c d = cdErr d from by unfold cmpErr; rw [if_neg (not_not_intro (E1.out (by decide))), if_pos he]]; exact if_pos he
        have HZ : Hid (stsErr c d ≠ 0) := by show _ ≠ _; rw [HS.out]; exact he
        clear he
        go_wp2_with fail
        go_ret3
        refine ⟨_, ret_three rfl ?_ ?_, ?_, B2.out⟩
        · unfold stsN; rw [if_neg HZ.out]; rfl
        · rw [HS.out]
        · unfold stsL; rw [if_neg HZ.out]; exact Own.nil _ _ _ _ _
    · have HC := Lib.hid (E1.out (by decide))
      have HD := Lib.hid (E2.out (by decide))
      obtain ⟨z0, z1, z2, z3⟩ := cd_block4 (block_below B1.out KCT.out)
      obtain ⟨y0, y1, y2, y3⟩ := cd_block4 (block_below B1.out KDT.out)
      clear BA BA' KT1 E1 E2
      have HE : True := trivial
      by_cases hq : c.width = d.width
      case neg =>
        have t0 : (c.width != d.width) = true := by simpa using hq
        have HS : Hid (stsErr c d = 1) := by show _ = _; unfold stsErr; rw [show cmpErr c d = 1 from by unfold cmpErr; rw [if_neg (not_not_intro HC.out), if_neg (not_not_intro HD.out), if_pos (.inl hq)]]; exact if_pos (by decide)
        have HZ : Hid (stsErr c d ≠ 0) := by show _ ≠ _; rw [HS.out]; decide
        clear hq HE
        go_wp2_with fail
        go_ret3
        refine ⟨_, ret_three rfl ?_ ?_, ?_, BB.out⟩
        · unfold stsN; rw [if_neg HZ.out]; rfl
        · rw [HS.out]
        · unfold stsL; rw [if_neg HZ.out]; exact Own.nil _ _ _ _ _
      have t0 : (c.width != d.width) = false := by simpa using hq
      have HW := Lib.hid hq
      clear hq
      by_cases hq : c.regs = d.regs
      case neg =>
        have t1 : (c.regs != d.regs) = true := by simpa using hq
        have HS : Hid (stsErr c d = 1) := by show _ = _; unfold stsErr; rw [show cmpErr c d = 1 from by unfold cmpErr; rw [if_neg (not_not_intro HC.out), if_neg (not_not_intro HD.out), if_pos (.inr (.inl hq))]]; exact if_pos (by decide)
        have HZ : Hid (stsErr c d ≠ 0) := by show _ ≠ _; rw [HS.out]; decide
        clear hq HE
        go_wp2_with fail
        go_ret3
        refine ⟨_, ret_three rfl ?_ ?_, ?_, BB.out⟩
        · unfold stsN; rw [if_neg HZ.out]; rfl
        · rw [HS.out]
        · unfold stsL; rw [if_neg HZ.out]; exact Own.nil _ _ _ _ _
      have t1 : (c.regs != d.regs) = false := by simpa using hq
      have HR := Lib.hid hq
      clear hq
      by_cases hq : c.out = d.out
      case neg =>
        have HF : Hid (decide (c.out = d.out) = false) := decide_eq_false hq
        have HS : Hid (stsErr c d = 1) := by show _ = _; unfold stsErr; rw [show cmpErr c d = 1 from by unfold cmpErr; rw [if_neg (not_not_intro HC.out), if_neg (not_not_intro HD.out), if_pos (.inr (.inr hq))]]; exact if_pos (by decide)
        have HZ : Hid (stsErr c d ≠ 0) := by show _ ≠ _; rw [HS.out]; decide
        clear hq HE
        go_wp2_with fail
        refine (CE.out _ BB.out).mono ?_
        rintro e w2 ⟨rfl, d2⟩
        rw [HF.out]
        have B2 := Lib.hid (below_both BB.out (d2.below _))
        go_wp2_with fail
        go_ret3
        refine ⟨_, ret_three rfl ?_ ?_, ?_, B2.out⟩
        · unfold stsN; rw [if_neg HZ.out]; rfl
        · rw [HS.out]
        · unfold stsL; rw [if_neg HZ.out]; exact Own.nil _ _ _ _ _
      have HF : Hid (decide (c.out = d.out) = true) := decide_eq_true hq
      have HO := Lib.hid hq
      clear hq
      have HCE : Hid (cmpErr c d = 0) := by show _ = _; unfold cmpErr; rw [if_neg (not_not_intro HC.out), if_neg (not_not_intro HD.out), if_neg (by rintro (h | h | h); (· exact h HW.out); (· exact h HR.out); (· exact h HO.out))]
      go_wp2_with fail
      refine (CE.out _ BB.out).mono ?_
      rintro e w2 ⟨rfl, d2⟩
      rw [HF.out]
      have B2 := Lib.hid (below_both BB.out (d2.below _))
      obtain ⟨z0, z1, z2, z3⟩ := cd_block4 (d2.heap (block_below B1.out KCT.out))
      obtain ⟨y0, y1, y2, y3⟩ := cd_block4 (d2.heap (block_below B1.out KDT.out))
      have KC2 := Lib.hid (d2.heap (block_below B1.out KCT.out))
      clear d2
      go_wp2_with fail
      refine (CI.out _ B2.out).mono ?_
      rintro e w3 ⟨v3, rfl, o3, b3⟩
      obtain ⟨a3, c3, rfl⟩ := o3.form
      have O3 := Lib.hid (show Own (Kd.int .i64) 3 NoS w3 w2.heap.size (.slice a3 (inp2 c d).length c3) (inp2 c d) from o3)
      have B3 := Lib.hid (below_both B2.out b3)
      clear z0 z1 z2 z3 y0 y1 y2 y3
      obtain ⟨z0, z1, z2, z3⟩ := cd_block4 (block_below b3 KC2.out)
      rw [show (ofL (inpL c ++ inpL d)).length = (inp2 c d).length from rfl]
      have hil := inp2_length c d
      have HOK := Lib.hid (cd_ok HC.out)
      have hw1 := HOK.out.w1
      have hw2 := HOK.out.w2
      clear b3 o3 B1 KT KCT KDT KC2 BT
      obtain ⟨m, hm⟩ : ∃ m, m = c.width.toNat * (inp2 c d).length := ⟨_, rfl⟩
      have hcw : c.width * ((inp2 c d).length : Int) = (m : Int) := by rw [hm, Int.natCast_mul, Int.toNat_of_nonneg (by omega)]
      have hm1 : m ≤ 64 * 16 := by rw [hm]; exact Nat.mul_le_mul (by omega) hil
      have HE : Hid (stsErr c d = if 16 < (m : Int) then 7 else 0) := by show _ = _; unfold stsErr; rw [if_neg (not_not_intro HCE.out), hcw]
      have HN : Hid (stsN c d = if stsErr c d = 0 then 2 ^ m else 0) := by show _ = _; unfold stsN; rw [hm]
      have HL : Hid (stsL c d = if stsErr c d = 0 then inp2 c d else []) := rfl
      have HWJ : Hid (wrap64 (c.width * ((inp2 c d).length : Int)) = (m : Int)) := by show _ = _; rw [hcw, IntWalk.wrap64_in _ (by omega)]
      have hwj := HWJ.out
      have hbs := B2.out.size
      generalize inp2 c d = I at *
      have hmI : (0 : Int) ≤ (m : Int) := by omega
      clear hm hcw hw1 hw2 HOK
      by_cases h16 : m ≤ 16
      · have t0 : decide ((m : Int) > 16) = false := decide_eq_false (by omega)
        have t0' : decide ((16 : Int) < (m : Int)) = false := decide_eq_false (by omega)
        rw [if_neg (by omega)] at HE
        rw [if_pos HE.out] at HN HL
        have HP := Lib.hid (pow_i64 h16)
        clear h16 hm1
        go_wp2_with fail
        go_quiet (fail)
        go_wp2_with fail
        go_ret3
        refine ⟨_, ret_three rfl ?_ ?_, ?_, ?_⟩
        · rw [HN.out]; exact HP.out
        · rw [HE.out]
        · rw [HL.out]; exact (O3.out.mono (fun b _ h => h) hbs).drewN _
        · exact below_both B3.out ((Drawn.of w3 _).below _)
      · have t0 : decide ((m : Int) > 16) = true := decide_eq_true (by omega)
        have t0' : decide ((16 : Int) < (m : Int)) = true := decide_eq_true (by omega)
        rw [if_pos (by omega)] at HE
        rw [if_neg (by rw [HE.out]; decide)] at HN HL
        clear h16 hm1
        go_wp2_with fail
        go_ret3
        refine ⟨_, ret_three rfl ?_ ?_, ?_, B3.out⟩
        · rw [HN.out]; rfl
        · rw [HE.out]
        · rw [HL.out]; exact Own.nil _ _ _ _ _
end Go.Proofs.Sat
