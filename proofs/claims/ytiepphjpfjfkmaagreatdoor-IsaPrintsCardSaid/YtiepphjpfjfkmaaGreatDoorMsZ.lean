/- MsY, MsZ, one after the other. -/
import Derived.Test.YtiepphjpfjfkmaaGreatDoorMsX
set_option linter.unusedVariables false
set_option linter.unusedSimpArgs false
/- A copy whose rows may be written. -/
namespace Go.Proofs.Sat
open Go Go.RowKit
/-- The block of a row of n cells that may be written, made since w. -/
def CopB (w w' : World) (t : TypeId) (n : Nat) (A : Option Addr) : Prop := 0 < n → ∃ g cur, A = some ⟨g, 0, none⟩ ∧ w.heap.size + 2 ≤ g ∧ g < w'.heap.size ∧ w'.heap[g]? = some (.cells cur t (0, 0)) ∧ n ≤ cur.size
theorem CopB.of_same {w w1 w2 : World} {t : TypeId} {n : Nat} {A : Option Addr} (h : CopB w w1 t n A) (hs : ∀ b, w.heap.size + 2 ≤ b → w2.heap[b]? = w1.heap[b]?) (hz : w2.heap.size = w1.heap.size) : CopB w w2 t n A := by
  intro hp
  obtain ⟨g, cur, e, h1, h2, h3, h4⟩ := h hp
  exact ⟨g, cur, e, h1, by omega, (hs g h1).trans h3, h4⟩
theorem cop_in {w w' : World} {e : TypeId} {B n c : Nat} {A : Option Addr} {l : List In} (h : Own kIn e NoS w' B (.slice A n c) l) (hB : w.heap.size + 2 ≤ B) : CopB w w' e (6 * l.length) A := by
  intro hp
  obtain ⟨cs, ho, -⟩ := h
  rcases ho.2 with ⟨h0, h1⟩ | ⟨g, cap, cur, hv, hb, hg, h2, h3, h4, h5⟩
  · omega
  · cases hv
    refine ⟨g, cur, rfl, by omega, (Array.getElem?_eq_some_iff.1 hg).1, hg, ?_⟩
    have : cur.size = c * 6 := h4
    omega
theorem cop_int {w w' : World} {e : TypeId} {B n c : Nat} {A : Option Addr} {l : List Int} (h : Own (Kd.int .i64) e NoS w' B (.slice A n c) l) (hB : w.heap.size + 2 ≤ B) : CopB w w' e l.length A := by
  intro hp
  rcases h.block with ⟨h0, hx⟩ | ⟨g, cap, cur, hv, hb, hlt, hg, q1, q2, q3, q4⟩
  · rw [hx] at hp; simp at hp
  · cases hv
    exact ⟨g, cur, rfl, by omega, hlt, hg, by omega⟩
set_option maxRecDepth 20000 in
set_option maxHeartbeats 2000000 in
theorem isa_CopyB (S : Nat → Prop) (c : Cd) (p : CdAt) (w : World) (h : CdRd S w c p) (hi : c.ins.length ≤ 1099511627776) (ho : c.out.length ≤ 1099511627776) : Calls Tryz.prog 29 #[cdVal c p] w fun e w' => ∃ p', e = .returned (cdVal c p') ∧ CdRd (fun b => w.heap.size ≤ b) w' c p' ∧ CopB w w' 48 (6 * c.ins.length) p'.ia ∧ CopB w w' 3 c.out.length p'.oa ∧ Below w.heap.size w w' := by
  obtain ⟨ia, ic, oa, oc⟩ := p
  have BW := Lib.hid (below_alloc (below_alloc (Below.refl w.heap.size w) (.cells (cellsC c ia ic oa oc) 25)) (.cells #[.int .i64 0, .int .i64 0, .slice none 0 0, .slice none 0 0] 25))
  have KC := Lib.hid (block_alloc (heap_alloc_new w (.cells (cellsC c ia ic oa oc) 25)) (.cells #[.int .i64 0, .int .i64 0, .slice none 0 0, .slice none 0 0] 25))
  have KZ := Lib.hid (block_at1 w (.cells (cellsC c ia ic oa oc) 25) (.cells #[.int .i64 0, .int .i64 0, .slice none 0 0, .slice none 0 0] 25))
  have HI : Hid (∀ W, Below w.heap.size w W → Calls Tryz.prog 50 #[.slice ia c.ins.length ic] W fun e w' => ∃ v, e = .returned v ∧ Own kIn 48 NoS w' W.heap.size v c.ins ∧ Below W.heap.size W w') := fun W b => ins_Clone S ia ic c.ins W (h.ins.frame (Same.below b)) hi
  have HO : Hid (∀ W, Below w.heap.size w W → Calls Tryz.prog 51 #[.slice oa c.out.length oc] W fun e w' => ∃ v, e = .returned v ∧ Own (Kd.int .i64) 3 NoS w' W.heap.size v c.out ∧ Below W.heap.size W w') := fun W b => int_Clone S oa oc c.out W (h.out.frame (Same.below b)) ho
  clear h hi ho
  unfold cdVal
  go_enter Tryz.func29, Tryz.ntmps29
  go_wp2_with fail
  obtain ⟨s0, s1, s2, s3⟩ := cd_block4 KC.out
  generalize (w.alloc (.cells (cellsC c ia ic oa oc) 25)).alloc (.cells #[.int .i64 0, .int .i64 0, .slice none 0 0, .slice none 0 0] 25) = W0 at *
  have BWd : Hid (Below w.heap.size w W0.drew) := below_drewN BW.out 1
  have KCd : Hid (W0.drew.heap[w.heap.size]? = _) := KC.out
  have KZd : Hid (W0.drew.heap[w.heap.size + 1]? = _) := KZ.out
  have hhn : w.heap.size ≠ w.heap.size + 1 := by omega
  go_region_held3 (fun w' => w'.cell? ⟨w.heap.size, 0, none⟩ = some (.int .i64 c.width) ∧ w'.cell? ⟨w.heap.size, 1, none⟩ = some (.int .i64 c.regs) ∧ w'.cell? ⟨w.heap.size, 2, none⟩ = some (.slice ia c.ins.length ic) ∧ w'.cell? ⟨w.heap.size, 3, none⟩ = some (.slice oa c.out.length oc))
      (first | with_reducible exact ⟨(World.cell?_of_block (EF _ hhn)).trans x0, (World.cell?_of_block (EF _ hhn)).trans x1, (World.cell?_of_block (EF _ hhn)).trans x2, (World.cell?_of_block (EF _ hhn)).trans x3⟩ | with_reducible exact cd_block4 KC2.out | with_reducible exact cd_block4 KC1.out | exact ⟨s0, s1, s2, s3⟩)
      (first
      | (go_at_call 50
         refine (HI.out _ BWd.out).mono ?_
         rintro e w1 ⟨v1, rfl, o1, b1⟩
         obtain ⟨a1, c1, rfl⟩ := o1.form
         have O1 := Lib.hid o1
         have B1 := Lib.hid (below_both BWd.out b1)
         have KC1 := Lib.hid (block_below b1 KCd.out)
         have KZ1 := Lib.hid (block_below b1 KZd.out)
         have HZ1 : Hid (w.heap.size + 1 < W0.heap.size) := (Array.getElem?_eq_some_iff.1 KZ.out).1
         clear o1 b1)
      | (go_at_call 51
         refine (HO.out _ B1.out).mono ?_
         rintro e w2 ⟨v2, rfl, o2, b2⟩
         obtain ⟨a2, c2, rfl⟩ := o2.form
         have O2 := Lib.hid o2
         have O12 := Lib.hid (O1.out.below b2)
         have B2 := Lib.hid (below_both B1.out b2)
         have KC2 := Lib.hid (block_below b2 KC1.out)
         have KZ2 := Lib.hid (block_below b2 KZ1.out)
         have HZ2 : Hid (w.heap.size + 1 < w1.heap.size) := (Array.getElem?_eq_some_iff.1 KZ1.out).1
         obtain ⟨x0, x1, x2, x3⟩ := cd_block4 KC2.out
         obtain ⟨q0, q1, q2, q3⟩ := cd_block4 KZ2.out
         have qf : ∀ i, w2.frozen? ⟨w.heap.size + 1, i, none⟩ = false := fun i => frozen_of_block KZ2.out
         have EF := four_far w2 (w.heap.size + 1) (.int .i64 c.width) (.int .i64 c.regs) (.slice a1 c.ins.length c1) (.slice a2 c.out.length c2)
         clear o2 b2)
      | fail)
  go_wp2_with fail
  refine bodyPost_ret_block (cs := cellsC c a1 c1 a2 c2) (w.heap.size + 1) (0, 0) _ rfl rfl (four_set KZ2.out _ _ _ _) Tryz.underlying25 rfl (by kernel_rfl) rfl ⟨⟨a1, c1, a2, c2⟩, rfl, ⟨?_, ?_⟩, ?_, ?_, four_below B2.out (by omega) _ _ _ _⟩
  · have r := (Own.rd' O12.out).mono (S' := fun b => w.heap.size + 1 < b) (fun b _ hb => by rcases hb with hb | hb; (· exact hb.elim); (· exact Nat.lt_of_lt_of_le HZ1.out hb))
    exact (r.frame (four_same (fun b hb => by have : w.heap.size + 1 < b := hb; omega) _ _ _ _)).mono (fun b _ hb => by have : w.heap.size + 1 < b := hb; show w.heap.size ≤ b; omega)
  · have r := (Own.rd' O2.out).mono (S' := fun b => w.heap.size + 1 < b) (fun b _ hb => by rcases hb with hb | hb; (· exact hb.elim); (· exact Nat.lt_of_lt_of_le HZ2.out hb))
    exact (r.frame (four_same (fun b hb => by have : w.heap.size + 1 < b := hb; omega) _ _ _ _)).mono (fun b _ hb => by have : w.heap.size + 1 < b := hb; show w.heap.size ≤ b; omega)
  · exact (cop_in O12.out (by have := HZ1.out; show _ ≤ W0.heap.size; omega)).of_same (fun b hb => four_far w2 (w.heap.size + 1) _ _ _ _ b (by omega)) (by simp [World.setCell])
  · exact (cop_int O2.out (by have := HZ2.out; omega)).of_same (fun b hb => four_far w2 (w.heap.size + 1) _ _ _ _ b (by omega)) (by simp [World.setCell])
end Go.Proofs.Sat
/- The walk of the law IsaPrints. -/
namespace Go.Proofs.Sat
open Go Go.RowKit
/-- Worlds that differ in the values of some blocks. -/
def Rub (G : Nat → Prop) (w w' : World) : Prop := (w'.os = w.os ∧ w'.tape = w.tape ∧ w'.output = w.output) ∧ w'.heap.size = w.heap.size ∧ (∀ b, ¬ G b → w'.heap[b]? = w.heap[b]?) ∧ ∀ (b : Nat) (cur : Array Value) (t : TypeId), w.heap[b]? = some (Obj.cells cur t (0, 0)) → ∃ cur' : Array Value, w'.heap[b]? = some (Obj.cells cur' t (0, 0)) ∧ cur'.size = cur.size
theorem Rub.refl (G : Nat → Prop) (w : World) : Rub G w w := ⟨⟨rfl, rfl, rfl⟩, rfl, fun _ _ => rfl, fun _ cur _ h => ⟨cur, h, rfl⟩⟩
theorem Rub.setCell {G : Nat → Prop} {w w' : World} {g i : Nat} (h : Rub G w w') (hg : G g) (v : Value) : Rub G w (w'.setCell ⟨g, i, none⟩ v) := by
  obtain ⟨h1, h2, h3, h4⟩ := h
  refine ⟨h1, by simp [World.setCell, h2], fun b hb => ?_, fun b cur t hc => ?_⟩
  · rw [← h3 b hb]
    have : b ≠ g := fun e => hb (e ▸ hg)
    simp [World.setCell, Array.getElem?_modify, Ne.symm this]
  · obtain ⟨cur', e1, e2⟩ := h4 b cur t hc
    by_cases hbg : g = b
    · subst hbg
      exact ⟨cur'.setIfInBounds i v, by simp [World.setCell, Array.getElem?_modify, e1], by simpa using e2⟩
    · exact ⟨cur', by simp [World.setCell, Array.getElem?_modify, hbg, e1], e2⟩
theorem Rub.below {G : Nat → Prop} {B : Nat} {w w' : World} (h : Rub G w w') (hG : ∀ b, G b → B ≤ b) : Below B w w' :=
  ⟨h.1.1, h.1.2.1, h.1.2.2, by rw [h.2.1]; exact Nat.le_refl _, fun b hb => h.2.2.1 b fun hg => by have := hG b hg; omega⟩
theorem Rub.same {G S : Nat → Prop} {w w' : World} (h : Rub G w w') (hG : ∀ b, S b → ¬ G b) : Same S w w' :=
  ⟨by rw [h.2.1]; exact Nat.le_refl _, fun b hb _ => h.2.2.1 b (hG b hb)⟩
/-- A block of a copy, some worlds later. -/
theorem CopB.rub {w w1 w2 w3 : World} {G : Nat → Prop} {t : TypeId} {n : Nat} {A : Option Addr} (h : CopB w w1 t n A) (hb : Below w1.heap.size w1 w2) (hr : Rub G w2 w3) (hn : 0 < n) : ∃ g cur, A = some ⟨g, 0, none⟩ ∧ (w.heap.size + 2 ≤ g ∧ g < w1.heap.size) ∧ w3.heap[g]? = some (.cells cur t (0, 0)) ∧ n ≤ cur.size := by
  obtain ⟨g, cur, e, h1, h2, h3, h4⟩ := h hn
  obtain ⟨cur', e1, e2⟩ := hr.2.2.2 g cur t ((hb.block g h2).trans h3)
  exact ⟨g, cur', e, ⟨h1, h2⟩, e1, by omega⟩
theorem cells_at {w : World} {g : Nat} {cur : Array Value} {t : TypeId} (h : w.heap[g]? = some (.cells cur t (0, 0))) {i : Nat} (hi : i < cur.size) : ∃ v, w.cell? ⟨g, i, none⟩ = some v := ⟨cur[i], by rw [cell_of_row _ _ _ _ _ _ h]; simp [hi]⟩
set_option maxRecDepth 20000 in
set_option maxHeartbeats 8000000 in
theorem law48_Prints (S1 S2 : Nat → Prop) (c d : Cd) (p q : CdAt) (w : World) (hT : MsT w) (h1 : CdRd S1 w c p) (h2 : CdRd S2 w d q) (hC : CdOK c) : Calls Tryz.prog 7 #[cdVal c p, cdVal d q] w fun e w' => e = .returned (.bool true) ∧ Below w.heap.size w w' := by
  obtain ⟨ia, ic, oa, oc⟩ := p
  obtain ⟨ja, jc, qa, qc⟩ := q
  have BW := Lib.hid (below_alloc (below_alloc (Below.refl w.heap.size w) (.cells (cellsC c ia ic oa oc) 25)) (.cells (cellsC d ja jc qa qc) 25))
  have KC := Lib.hid (block_alloc (heap_alloc_new w (.cells (cellsC c ia ic oa oc) 25)) (.cells (cellsC d ja jc qa qc) 25))
  have KD := Lib.hid (block_at1 w (.cells (cellsC c ia ic oa oc) 25) (.cells (cellsC d ja jc qa qc) 25))
  have RC : Hid (CdRd (fun b => b < w.heap.size) w c ⟨ia, ic, oa, oc⟩) := ⟨h1.ins.lt, h1.out.lt⟩
  have RD : Hid (CdRd (fun b => b < w.heap.size) w d ⟨ja, jc, qa, qc⟩) := ⟨h2.ins.lt, h2.out.lt⟩
  have HT := Lib.hid hT
  have HC := Lib.hid hC
  have CL := Lib.hid (fun W (h : MsT W) => law48_lives W h)
  have CFC := Lib.hid (fun W => law48_few c ⟨ia, ic, oa, oc⟩ W)
  have CFD := Lib.hid (fun W => law48_few d ⟨ja, jc, qa, qc⟩ W)
  have HFW : Hid (fewC c = true → c.ins.length ≤ 400 ∧ c.out.length ≤ 100) := fun h => of_decide_eq_true h
  clear h1 h2 hT hC
  unfold cdVal
  go_enter Tryz.func7, Tryz.ntmps7
  obtain ⟨x0, x1, x2, x3⟩ := cd_block4 KC.out
  go_wp2_with fail
  refine (CFC.out _).mono ?_
  rintro e w1 ⟨rfl, b1⟩
  have B1 := Lib.hid (below_both BW.out b1)
  have KC1 := Lib.hid (block_below b1 KC.out)
  have KD1 := Lib.hid (block_below b1 KD.out)
  clear b1 x0 x1 x2 x3 CFC KC KD BW
  cases hf : fewC c with
  | false =>
    go_wp2_with fail
    refine (CL.out w1 (HT.out.below B1.out)).mono ?_
    rintro e w9 ⟨rfl, b9⟩
    go_wp2_with fail
    go_ret
    exact ⟨rfl, below_both B1.out b9⟩
  | true =>
    have HL := Lib.hid (HFW.out hf)
    clear hf HFW
    obtain ⟨y0, y1, y2, y3⟩ := cd_block4 KD1.out
    go_wp2_with fail
    refine (CFD.out _).mono ?_
    rintro e w2 ⟨rfl, b2⟩
    have B2 := Lib.hid (below_both B1.out b2)
    have KC2 := Lib.hid (block_below b2 KC1.out)
    have KD2 := Lib.hid (block_below b2 KD1.out)
    clear b2 y0 y1 y2 y3 CFD KC1 KD1 B1
    cases hf : fewC d with
    | false =>
      go_wp2_with fail
      refine (CL.out w2 (HT.out.below B2.out)).mono ?_
      rintro e w9 ⟨rfl, b9⟩
      go_wp2_with fail
      go_ret
      exact ⟨rfl, below_both B2.out b9⟩
    | true =>
      have CCP := Lib.hid (isa_CopyB _ c ⟨ia, ic, oa, oc⟩ w2 (RC.out.frame (Same.below B2.out)) (by have := HL.out; omega) (by have := HL.out; omega))
      obtain ⟨x0, x1, x2, x3⟩ := cd_block4 KC2.out
      clear hf
      go_wp2_with fail
      refine CCP.out.mono ?_
      rintro e w3 ⟨⟨ka, kc, ra, rc⟩, rfl, r3, cb1, cb2, b3⟩
      have B4 : Hid (Below w.heap.size w (w3.alloc (.cells (cellsC c ka kc ra rc) 25)).drew) := (below_alloc (below_both B2.out b3) (.cells (cellsC c ka kc ra rc) 25)).drew
      have KC4 : Hid ((w3.alloc (.cells (cellsC c ka kc ra rc) 25)).drew.heap[w.heap.size]? = _) := block_alloc (block_below b3 KC2.out) (.cells (cellsC c ka kc ra rc) 25)
      have KD4 : Hid ((w3.alloc (.cells (cellsC c ka kc ra rc) 25)).drew.heap[w.heap.size + 1]? = _) := block_alloc (block_below b3 KD2.out) (.cells (cellsC c ka kc ra rc) 25)
      have KE4 : Hid ((w3.alloc (.cells (cellsC c ka kc ra rc) 25)).drew.heap[w3.heap.size]? = _) := heap_alloc_new w3 (.cells (cellsC c ka kc ra rc) 25)
      have D4 : Hid (Below w3.heap.size w3 (w3.alloc (.cells (cellsC c ka kc ra rc) 25)).drew) := (below_alloc (Below.refl w3.heap.size w3) (.cells (cellsC c ka kc ra rc) 25)).drew
      have RE4 := Lib.hid ((r3.frame (Same.alloc _ w3 (.cells (cellsC c ka kc ra rc) 25))).frame (Same.drewN _ _ 1))
      have CB1 := Lib.hid cb1
      have CB2 := Lib.hid cb2
      have CCA := Lib.hid (fun W (b : Below w.heap.size w W) => isa_CopyB _ c ⟨ia, ic, oa, oc⟩ W (RC.out.frame (Same.below b)) (by have := HL.out; omega) (by have := HL.out; omega))
      have Z2 : Hid (w.heap.size + 2 ≤ w2.heap.size) := by
        have := (Array.getElem?_eq_some_iff.1 KD2.out).1
        exact this
      have Z3 : Hid (w2.heap.size ≤ w3.heap.size) := b3.size
      clear r3 cb1 cb2 b3 x0 x1 x2 x3
      go_wp2_with fail
      go_region_held3 (fun w' => (w'.cell? ⟨w.heap.size, 0, none⟩ = some (.int .i64 c.width) ∧ w'.cell? ⟨w.heap.size, 1, none⟩ = some (.int .i64 c.regs) ∧ w'.cell? ⟨w.heap.size, 2, none⟩ = some (.slice ia c.ins.length ic) ∧ w'.cell? ⟨w.heap.size, 3, none⟩ = some (.slice oa c.out.length oc)) ∧ (w'.cell? ⟨w.heap.size + 1, 0, none⟩ = some (.int .i64 d.width) ∧ w'.cell? ⟨w.heap.size + 1, 1, none⟩ = some (.int .i64 d.regs) ∧ w'.cell? ⟨w.heap.size + 1, 2, none⟩ = some (.slice ja d.ins.length jc) ∧ w'.cell? ⟨w.heap.size + 1, 3, none⟩ = some (.slice qa d.out.length qc)) ∧ (w'.cell? ⟨w3.heap.size, 0, none⟩ = some (.int .i64 c.width) ∧ w'.cell? ⟨w3.heap.size, 1, none⟩ = some (.int .i64 c.regs) ∧ w'.cell? ⟨w3.heap.size, 2, none⟩ = some (.slice ka c.ins.length kc) ∧ w'.cell? ⟨w3.heap.size, 3, none⟩ = some (.slice ra c.out.length rc)))
      (first | with_reducible exact ⟨cd_block4 KC9.out, cd_block4 KD9.out, cd_block4 KE9.out⟩ | with_reducible exact ⟨cd_block4 KC8.out, cd_block4 KD8.out, cd_block4 KE8.out⟩ | with_reducible exact ⟨cd_block4 KC7.out, cd_block4 KD7.out, cd_block4 KE7.out⟩ | with_reducible exact ⟨cd_block4 KC6.out, cd_block4 KD6.out, cd_block4 KE6.out⟩ | with_reducible exact ⟨cd_block4 KC5.out, cd_block4 KD5.out, cd_block4 KE5.out⟩ | with_reducible exact ⟨cd_block4 KC4.out, cd_block4 KD4.out, cd_block4 KE4.out⟩)
      (first
      | (go_at_call 17
         refine (isa_Print _ c ⟨ia, ic, oa, oc⟩ _ (HT.out.below B4.out) (RC.out.frame (Same.below B4.out)) HC.out (by have := HL.out; omega) (by have := HL.out; omega)).mono ?_
         rintro e w5 ⟨rfl, b5⟩
         have B5 := Lib.hid (below_both B4.out b5)
         have D5 := Lib.hid (below_both D4.out b5)
         have KC5 := Lib.hid (block_below b5 KC4.out)
         have KD5 := Lib.hid (block_below b5 KD4.out)
         have KE5 := Lib.hid (block_below b5 KE4.out)
         have RE5 := Lib.hid (RE4.out.frame (same_all b5))
         clear b5)
      | (go_at_call 30
         refine (ref48_Print _ c ⟨ia, ic, oa, oc⟩ _ (RC.out.frame (Same.below B5.out)) HC.out (by have := HL.out; omega) (by have := HL.out; omega)).mono ?_
         rintro e w6 ⟨rfl, b6⟩
         have B6 := Lib.hid (below_both B5.out b6)
         have D6 := Lib.hid (below_both D5.out b6)
         have KC6 := Lib.hid (block_below b6 KC5.out)
         have KD6 := Lib.hid (block_below b6 KD5.out)
         have KE6 := Lib.hid (block_below b6 KE5.out)
         have RE6 := Lib.hid (RE5.out.frame (same_all b6))
         clear b6)
      | (go_at_call 31
         refine (isa_Same _ _ c d ⟨ia, ic, oa, oc⟩ ⟨ja, jc, qa, qc⟩ _ (RC.out.frame (Same.below B6.out)) (RD.out.frame (Same.below B6.out))).mono ?_
         rintro e w7 ⟨rfl, b7⟩
         have B7 := Lib.hid (below_both B6.out b7)
         have D7 := Lib.hid (below_both D6.out b7)
         have KC7 := Lib.hid (block_below b7 KC6.out)
         have KD7 := Lib.hid (block_below b7 KD6.out)
         have KE7 := Lib.hid (block_below b7 KE6.out)
         have RE7 := Lib.hid (RE6.out.frame (same_all b7))
         clear b7)
      | (go_at_call 16
         with_reducible refine gate_a #[.agg #[.int .i64 c.width, .int .i64 c.regs, .slice ia c.ins.length ic, .slice oa c.out.length oc], .agg #[.int .i64 d.width, .int .i64 d.regs, .slice ja d.ins.length jc, .slice qa d.out.length qc]] rfl ?_
         refine (ref48_Same _ _ c d ⟨ia, ic, oa, oc⟩ ⟨ja, jc, qa, qc⟩ _ (RC.out.frame (Same.below B7.out)) (RD.out.frame (Same.below B7.out))).mono ?_
         rintro e w8 ⟨rfl, b8⟩
         have B8 := Lib.hid (below_both B7.out b8)
         have D8 := Lib.hid (below_both D7.out b8)
         have KC8 := Lib.hid (block_below b8 KC7.out)
         have KD8 := Lib.hid (block_below b8 KD7.out)
         have KE8 := Lib.hid (block_below b8 KE7.out)
         have RE8 := Lib.hid (RE7.out.frame (same_all b8))
         clear b8)
      | (go_at_call 16
         with_reducible refine gate_a #[.agg #[.int .i64 c.width, .int .i64 c.regs, .slice ka c.ins.length kc, .slice ra c.out.length rc], .agg #[.int .i64 c.width, .int .i64 c.regs, .slice ia c.ins.length ic, .slice oa c.out.length oc]] rfl ?_
         refine (ref48_Same _ _ c c ⟨ka, kc, ra, rc⟩ ⟨ia, ic, oa, oc⟩ _ RE8.out (RC.out.frame (Same.below B8.out))).mono ?_
         rintro e w9 ⟨rfl, b9⟩
         have B9 := Lib.hid (below_both B8.out b9)
         have D9 := Lib.hid (below_both D8.out b9)
         have KC9 := Lib.hid (block_below b9 KC8.out)
         have KD9 := Lib.hid (block_below b9 KD8.out)
         have KE9 := Lib.hid (block_below b9 KE8.out)
         have RE9 := Lib.hid (RE8.out.frame (same_all b9))
         clear b9)
      | fail)
      go_wp2_with fail
      refine (CCA.out _ B9.out).mono ?_
      rintro e wa ⟨⟨ta, tc, ua, uc⟩, rfl, rta, -, -, ba⟩
      have BA := Lib.hid (below_alloc (below_both B9.out ba) (.cells (cellsC c ta tc ua uc) 25))
      have DA := Lib.hid (below_alloc (below_both D9.out ba) (.cells (cellsC c ta tc ua uc) 25))
      have KCA := Lib.hid (block_alloc (block_below ba KC9.out) (.cells (cellsC c ta tc ua uc) 25))
      have KEA := Lib.hid (block_alloc (block_below ba KE9.out) (.cells (cellsC c ta tc ua uc) 25))
      have KTA := Lib.hid (heap_alloc_new wa (.cells (cellsC c ta tc ua uc) 25))
      have RTA := Lib.hid (rta.frame (Same.alloc _ wa (.cells (cellsC c ta tc ua uc) 25)))
      have ZT : Hid (w3.heap.size ≤ wa.heap.size ∧ w3.heap.size ≤ w9.heap.size) := ⟨(below_both D9.out ba).size, D9.out.size⟩
      have GC : Hid (¬ (w2.heap.size + 2 ≤ w.heap.size ∧ w.heap.size < w3.heap.size)) := fun h => by have := Z2.out; omega
      have GE : Hid (¬ (w2.heap.size + 2 ≤ w3.heap.size ∧ w3.heap.size < w3.heap.size)) := fun h => by omega
      have GT : Hid (¬ (w2.heap.size + 2 ≤ wa.heap.size ∧ wa.heap.size < w3.heap.size)) := fun h => by have := ZT.out; omega
      clear rta ba KC4 KC5 KC6 KC7 KC8 KC9 KD4 KD5 KD6 KD7 KD8 KD9 KE4 KE5 KE6 KE7 KE8 KE9 RE4 RE5 RE6 RE7 RE8 RE9 D4 D5 D6 D7 D8 D9 B4 B5 B6 B7 B8 B9 CCA CCP
      obtain ⟨hl1, hl2⟩ := HL.out
      go_wp2_with fail
      go_loopw [7] (fun i wr => ∃ k : Nat, k ≤ c.ins.length ∧ i = .int .i64 k ∧ Hid (Rub (fun b => w2.heap.size + 2 ≤ b ∧ b < w3.heap.size) (wa.alloc (.cells (cellsC c ta tc ua uc) 25)) wr)) (fun i _ => c.ins.length - (intOf i).toNat)
      case atStart => exact ⟨0, by omega, rfl, Rub.refl _ _⟩
      case round =>
        obtain ⟨k, hk9, rfl, HR⟩ := hrel
        have KE := Lib.hid ((HR.out.2.2.1 _ GE.out).trans KEA.out)
        obtain ⟨z0, z1, z2, z3⟩ := cd_block4 KE.out
        by_cases hlt : k < c.ins.length
        · obtain ⟨g, cur, rfl, hG, hg, hsz⟩ := CB1.out.rub DA.out HR.out (by omega)
          obtain ⟨u0, c0⟩ := cells_at hg (i := k * 6) (by omega)
          obtain ⟨u1, c1⟩ := cells_at hg (i := k * 6 + 1) (by omega)
          obtain ⟨u2, c2⟩ := cells_at hg (i := k * 6 + 2) (by omega)
          obtain ⟨u3, c3⟩ := cells_at hg (i := k * 6 + 3) (by omega)
          obtain ⟨u4, c4⟩ := cells_at hg (i := k * 6 + 4) (by omega)
          obtain ⟨u5, c5⟩ := cells_at hg (i := k * 6 + 5) (by omega)
          have fz : ∀ i, wr.frozen? ⟨g, i, none⟩ = false := fun i => frozen_of_block hg
          have HG := Lib.hid hG
          clear hG hg hsz
          go_wp2_with fail
          go_roundw
          case rel => exact ⟨k + 1, by omega, by go_num, (((((HR.out.setCell HG.out _).setCell HG.out _).setCell HG.out _).setCell HG.out _).setCell HG.out _).setCell HG.out _⟩
          case measure => simp [intOf]; omega
        · obtain ⟨W1, hW1⟩ : ∃ W1, W1 = wr := ⟨_, rfl⟩
          subst hW1
          go_wp2_with fail
          go_loopw [8] (fun i wr => ∃ k : Nat, k ≤ c.out.length ∧ i = .int .i64 k ∧ Hid (Rub (fun b => w2.heap.size + 2 ≤ b ∧ b < w3.heap.size) (wa.alloc (.cells (cellsC c ta tc ua uc) 25)) wr)) (fun i _ => c.out.length - (intOf i).toNat)
          case atStart => exact ⟨0, by omega, rfl, HR⟩
          case round =>
            obtain ⟨m, hm9, rfl, HS⟩ := hrel
            have KE := Lib.hid ((HS.out.2.2.1 _ GE.out).trans KEA.out)
            obtain ⟨z0, z1, z2, z3⟩ := cd_block4 KE.out
            by_cases hlt2 : m < c.out.length
            · obtain ⟨g, cur, rfl, hG, hg, hsz⟩ := CB2.out.rub DA.out HS.out (by omega)
              obtain ⟨u0, c0⟩ := cells_at hg (i := m) (by omega)
              have fz : ∀ i, wr.frozen? ⟨g, i, none⟩ = false := fun i => frozen_of_block hg
              have HG := Lib.hid hG
              clear hG hg hsz
              go_wp2_with fail
              go_roundw
              case rel => exact ⟨m + 1, by omega, by go_num, HS.out.setCell HG.out _⟩
              case measure => simp [intOf]; omega
            · have KC := Lib.hid ((HS.out.2.2.1 _ GC.out).trans KCA.out)
              have KT := Lib.hid ((HS.out.2.2.1 _ GT.out).trans KTA.out)
              have BR : Hid (Below w.heap.size w wr) := BA.out.trans (HS.out.below fun b hb => by have := Z2.out; omega)
              have RT := Lib.hid (RTA.out.frame (HS.out.same fun b hb h => by have := ZT.out; have hb' : w9.heap.size ≤ b := hb; omega))
              obtain ⟨x0, x1, x2, x3⟩ := cd_block4 KC.out
              obtain ⟨y0, y1, y2, y3⟩ := cd_block4 KT.out
              go_wp2_with fail
              refine (ref48_Same _ _ c c ⟨ta, tc, ua, uc⟩ ⟨ia, ic, oa, oc⟩ _ RT.out (RC.out.frame (Same.below BR.out))).mono ?_
              rintro e wb ⟨rfl, bb⟩
              have BB := Lib.hid (below_both BR.out bb)
              simp only [decide_true]
              clear bb
              go_wp2_with fail
              refine (CL.out _ (HT.out.below BB.out)).mono ?_
              rintro e wc ⟨rfl, bc⟩
              go_wp2_with fail
              go_ret
              exact ⟨rfl, below_both BB.out bc⟩
end Go.Proofs.Sat
