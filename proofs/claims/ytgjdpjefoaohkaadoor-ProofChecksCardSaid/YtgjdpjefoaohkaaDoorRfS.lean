/- The walks of the reference's subs and Same. -/
import Derived.Test.YtgjdpjefoaohkaaDoorRfJ
import Derived.Deep.RegionHeld3
set_option linter.unusedVariables false
set_option linter.unusedSimpArgs false
namespace Go.Proofs.Sat
open Go Go.RowKit
noncomputable instance : DecidableEq Sb := fun _ _ => Classical.propDecidable _
noncomputable instance : DecidableEq St := fun _ _ => Classical.propDecidable _
theorem sb_conj {w : World} {b o : Nat} {x : Sb} {a : Option Addr} {c : Nat} (h : SbIn w b o x a c) : w.cell? ⟨b, o, none⟩ = some (.string x.name) ∧ w.cell? ⟨b, o + 1, none⟩ = some (.int .i64 x.term.op) ∧ w.cell? ⟨b, o + 2, none⟩ = some (.int .i64 x.term.width) ∧
    w.cell? ⟨b, o + 3, none⟩ = some (.int .u64 x.term.val) ∧ w.cell? ⟨b, o + 4, none⟩ = some (.string x.term.name) ∧ w.cell? ⟨b, o + 5, none⟩ = some (.slice a x.term.args.length c) := ⟨h.c0, h.c1, h.c2, h.c3, h.c4, h.c5⟩
theorem sb_ext {x y : Sb} : x = y ↔ x.name = y.name ∧ x.term = y.term := by cases x; cases y; simp
theorem st_ext {x y : St} : x = y ↔ x.kind = y.kind ∧ x.refs = y.refs ∧ x.rule = y.rule ∧ x.subs = y.subs ∧ x.a = y.a ∧ x.b = y.b := by cases x; cases y; simp
set_option maxHeartbeats 2000000 in
theorem ref34_subs (S1 S2 : Nat → Prop) (a1 a2 : Option Addr) (c1 c2 : Nat) (l1 l2 : List Sb) (w : World) (h1 : Rd kSb S1 w a1 c1 l1) (h2 : Rd kSb S2 w a2 c2 l2) :
    Calls Tryd.prog 34 #[.slice a1 l1.length c1, .slice a2 l2.length c2] w fun e w' => e = .returned (.bool (decide (l1 = l2))) ∧ Below w.heap.size w w' := by
  have hl1 := h1.le
  have hl2 := h2.le
  go_enter Tryd.func34, Tryd.ntmps34
  by_cases he : l1.length = l2.length
  · have hb : (l1.length != l2.length) = false := by simp [he]
    have hb' : ((l1.length : Int) != (l2.length : Int)) = false := by simp [he]
    have HE := Lib.hid he
    clear he
    go_wp2
    go_loopw [5] (fun i wr => ∃ k : Nat, k ≤ l1.length ∧ i = .int .i64 k ∧ Hid (∀ i (h : i < l1.length) (h' : i < l2.length), i < k → l1[i] = l2[i]) ∧ Hid (Below w.heap.size w wr)) (fun i _ => l1.length - (intOf i).toNat)
    case atStart => exact ⟨0, by omega, rfl, fun i h => by omega, Below.refl _ _⟩
    case round =>
      obtain ⟨k, hk, rfl, hv, HB⟩ := hrel
      by_cases hlt : k < l1.length
      · have hlt2 : k < l2.length := by have := HE.out; omega
        obtain ⟨b1, o1, a1', c1', rfl, lt1, hr1, P⟩ := sb_elem (h1.frame (Same.below HB.out)) hlt
        obtain ⟨b2, o2, a2', c2', rfl, lt2, hr2, Q⟩ := sb_elem (h2.frame (Same.below HB.out)) hlt2
        have CT := Lib.hid fun n => ref06_Same _ l1[k].term (Nat.le_refl _) l2[k].term _ _ _ _ _ _ (wr.drewN n) (hr1.frame (Same.drewN _ wr n)) (hr2.frame (Same.drewN _ wr n))
        have HXE := Lib.hid (sb_ext (x := l1[k]) (y := l2[k]))
        clear hb hb' hr1 hr2
        generalize hx1 : l1[k] = x1 at *
        generalize hx2 : l2[k] = x2 at *
        have PH := Lib.hid P
        have QH := Lib.hid Q
        have PC := Lib.hid (sb_conj P)
        have QC := Lib.hid (sb_conj Q)
        clear P Q
        have HX1 := Lib.hid hx1
        have HX2 := Lib.hid hx2
        clear hx1 hx2
        by_cases hqn : x1.name = x2.name
        · have bn : (x1.name.toList != x2.name.toList) = false := by rw [hqn]; simp
          have bn' : (x1.name.toList == x2.name.toList) = true := by rw [hqn]; simp
          have HQN := Lib.hid hqn
          clear hqn
          by_cases hq : x1.term = x2.term
          · have hq' : decide (x1.term = x2.term) = true := by simpa using hq
            have HQ := Lib.hid (HXE.out.2 ⟨HQN.out, hq⟩)
            clear hq
            rw [hq'] at CT
            go_wp2_with fail
            go_region_held3 (fun w' => (w'.cell? ⟨b1, o1 + k * 6, none⟩ = some (.string x1.name) ∧ w'.cell? ⟨b1, o1 + k * 6 + 1, none⟩ = some (.int .i64 x1.term.op) ∧ w'.cell? ⟨b1, o1 + k * 6 + 2, none⟩ = some (.int .i64 x1.term.width) ∧ w'.cell? ⟨b1, o1 + k * 6 + 3, none⟩ = some (.int .u64 x1.term.val) ∧ w'.cell? ⟨b1, o1 + k * 6 + 4, none⟩ = some (.string x1.term.name) ∧ w'.cell? ⟨b1, o1 + k * 6 + 5, none⟩ = some (.slice a1' x1.term.args.length c1')) ∧ (w'.cell? ⟨b2, o2 + k * 6, none⟩ = some (.string x2.name) ∧ w'.cell? ⟨b2, o2 + k * 6 + 1, none⟩ = some (.int .i64 x2.term.op) ∧ w'.cell? ⟨b2, o2 + k * 6 + 2, none⟩ = some (.int .i64 x2.term.width) ∧ w'.cell? ⟨b2, o2 + k * 6 + 3, none⟩ = some (.int .u64 x2.term.val) ∧ w'.cell? ⟨b2, o2 + k * 6 + 4, none⟩ = some (.string x2.term.name) ∧ w'.cell? ⟨b2, o2 + k * 6 + 5, none⟩ = some (.slice a2' x2.term.args.length c2')))
            (first | exact ⟨PC.out, QC.out⟩ | exact ⟨PC1.out, QC1.out⟩)
            (first
            | (go_at_call 35; refine (CT.out _).mono ?_; rintro e w1 ⟨rfl, hb1⟩; replace hb1 := Lib.hid hb1; have PC1 := Lib.hid (sb_conj (PH.out.frame (hb1.out.block b1 lt1))); have QC1 := Lib.hid (sb_conj (QH.out.frame (hb1.out.block b2 lt2))))
            | fail)
            go_wp2
            go_roundw
            case rel =>
              refine ⟨k + 1, by omega, by go_num, fun i hi hi2 hik => ?_, below_both (below_drewN HB.out _) hb1.out⟩
              rcases Nat.lt_or_ge i k with h' | h'
              · exact hv.out i hi hi2 h'
              · obtain rfl : i = k := by omega
                rw [HX1.out, HX2.out, HQ.out]
            case measure => simp [intOf]; omega
          · have hq' : decide (x1.term = x2.term) = false := by simpa using hq
            have HQ : Hid (¬ x1 = x2) := fun e => hq (HXE.out.1 e).2
            clear hq
            rw [hq'] at CT
            go_wp2_with fail
            go_region_held3 (fun w' => (w'.cell? ⟨b1, o1 + k * 6, none⟩ = some (.string x1.name) ∧ w'.cell? ⟨b1, o1 + k * 6 + 1, none⟩ = some (.int .i64 x1.term.op) ∧ w'.cell? ⟨b1, o1 + k * 6 + 2, none⟩ = some (.int .i64 x1.term.width) ∧ w'.cell? ⟨b1, o1 + k * 6 + 3, none⟩ = some (.int .u64 x1.term.val) ∧ w'.cell? ⟨b1, o1 + k * 6 + 4, none⟩ = some (.string x1.term.name) ∧ w'.cell? ⟨b1, o1 + k * 6 + 5, none⟩ = some (.slice a1' x1.term.args.length c1')) ∧ (w'.cell? ⟨b2, o2 + k * 6, none⟩ = some (.string x2.name) ∧ w'.cell? ⟨b2, o2 + k * 6 + 1, none⟩ = some (.int .i64 x2.term.op) ∧ w'.cell? ⟨b2, o2 + k * 6 + 2, none⟩ = some (.int .i64 x2.term.width) ∧ w'.cell? ⟨b2, o2 + k * 6 + 3, none⟩ = some (.int .u64 x2.term.val) ∧ w'.cell? ⟨b2, o2 + k * 6 + 4, none⟩ = some (.string x2.term.name) ∧ w'.cell? ⟨b2, o2 + k * 6 + 5, none⟩ = some (.slice a2' x2.term.args.length c2')))
            (first | exact ⟨PC.out, QC.out⟩ | exact ⟨PC1.out, QC1.out⟩)
            (first
            | (go_at_call 35; refine (CT.out _).mono ?_; rintro e w1 ⟨rfl, hb1⟩; replace hb1 := Lib.hid hb1; have PC1 := Lib.hid (sb_conj (PH.out.frame (hb1.out.block b1 lt1))); have QC1 := Lib.hid (sb_conj (QH.out.frame (hb1.out.block b2 lt2))))
            | fail)
            go_wp2
            go_ret
            refine ⟨ret_bool ?_, below_both (below_drewN HB.out _) hb1.out⟩
            symm
            rw [decide_eq_false_iff_not]
            rintro rfl
            exact HQ.out (HX1.out.symm.trans HX2.out)
        · have bn : (x1.name.toList != x2.name.toList) = true := by
            have := bytes_beq x1.name x2.name
            rw [decide_eq_false hqn] at this
            rw [bne, this]; rfl
          have bn' : (x1.name.toList == x2.name.toList) = false := by rw [bytes_beq]; exact decide_eq_false hqn
          have HQ : Hid (¬ x1 = x2) := fun e => hqn (HXE.out.1 e).1
          clear hqn CT
          obtain ⟨⟨p0, p1, p2, p3, p4, p5⟩, ⟨q0, q1, q2, q3, q4, q5⟩⟩ := And.intro PC.out QC.out
          go_wp2_with fail
          go_quiet (fail)
          go_wp2
          go_ret
          refine ⟨ret_bool ?_, below_drewN HB.out _⟩
          symm
          rw [decide_eq_false_iff_not]
          rintro rfl
          exact HQ.out (HX1.out.symm.trans HX2.out)
      · clear hb hb'
        go_wp2
        go_ret
        refine ⟨ret_bool ?_, HB.out⟩
        symm
        rw [decide_eq_true_eq, eq_iff_elems]
        exact ⟨HE.out, fun i hi hi2 => hv.out i hi hi2 (by omega)⟩
  · have hb : (l1.length != l2.length) = true := by simp [he]
    have hb' : ((l1.length : Int) != (l2.length : Int)) = true := by simp; omega
    go_wp2
    go_ret
    refine ⟨ret_bool ?_, Below.refl _ _⟩
    symm
    rw [decide_eq_false_iff_not]
    rintro rfl
    exact he rfl
end Go.Proofs.Sat
