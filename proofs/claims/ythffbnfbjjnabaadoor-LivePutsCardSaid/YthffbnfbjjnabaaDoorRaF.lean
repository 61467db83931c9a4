/- The walk of the reference's Run. -/
import Derived.Test.YthffbnfbjjnabaaDoorRaN
import Derived.Test.YthffbnfbjjnabaaDoorLvT
import Derived.Test.YthffbnfbjjnabaaDoorReL
import Derived.StillTailTactics
import Derived.Test.YthffbnfbjjnabaaDoorIsaK
import Derived.Deep.DeepCutAuto
set_option linter.unusedVariables false
set_option linter.unusedSimpArgs false
namespace Go.Proofs.Sat
open Go Go.RowKit
--HEAD
theorem ret_run {s s' : Nat → Nat} {b b' : Bool} (h : (s, b) = (s', b')) : Ending.returned (.tuple #[.agg (cells8 s), .bool b]) = .returned (.tuple #[.agg (cells8 s'), .bool b']) := by cases h; rfl
theorem ins_fields {width regs : Int} {x : In} (hr : 1 ≤ regs) (h : insErr width regs x = 0) : (0 ≤ x.op ∧ x.op ≤ 19) ∧ ((1 ≤ x.op) → 0 ≤ x.dst ∧ x.dst < regs) ∧ (0 ≤ x.a ∧ x.a < regs) ∧ (0 ≤ x.b ∧ x.b < regs) ∧ (0 ≤ x.c ∧ x.c < regs) := by
  unfold insErr at h
  split at h
  · exact absurd h (by decide)
  rename_i hk
  split at h
  · exact absurd h (by decide)
  rename_i hd
  split at h
  · exact absurd h (by decide)
  rename_i hu
  split at h
  · exact absurd h (by decide)
  split at h
  · exact absurd h (by decide)
  rename_i hz
  have hK : 0 ≤ x.op ∧ x.op ≤ 19 := by
    cases hh : knownI x.op
    · exact absurd hh hk
    · exact of_decide_eq_true hh
  have hU : ∀ r ∈ [x.a, x.b, x.c].take (srcN x.op).toNat, 0 ≤ r ∧ r < regs := by
    intro r hr'
    cases hh : inR r regs
    · refine absurd ?_ hu
      rw [List.all_eq_false]
      exact ⟨r, hr', by rw [hh]; simp⟩
    · exact of_decide_eq_true hh
  have hZ : ∀ r ∈ [x.a, x.b, x.c].drop (srcN x.op).toNat, r = 0 := by
    intro r hr'
    cases hh : (r == 0)
    · refine absurd (Or.inr (Or.inr ?_)) hz
      rw [List.all_eq_false]
      exact ⟨r, hr', by rw [hh]; simp⟩
    · simpa using hh
  have hA : ∀ r ∈ [x.a, x.b, x.c], 0 ≤ r ∧ r < regs := by
    intro r hr'
    rw [← List.take_append_drop (srcN x.op).toNat [x.a, x.b, x.c]] at hr'
    rcases List.mem_append.1 hr' with h1 | h1
    · exact hU r h1
    · rw [hZ r h1]; omega
  refine ⟨hK, fun h1 => ?_, hA _ (by simp), hA _ (by simp), hA _ (by simp)⟩
  cases hh : inR x.dst regs
  · exact absurd ⟨decide_eq_true (by omega), hh⟩ hd
  · exact of_decide_eq_true hh
theorem block_at3 (w : World) (o1 o2 o3 o4 : Obj) : ((((w.alloc o1).alloc o2).alloc o3).alloc o4).heap[w.heap.size + 1 + 1 + 1]? = some o4 := by
  have h := heap_alloc_new (((w.alloc o1).alloc o2).alloc o3) o4
  simpa using h
theorem stepN_eq (n : Nat) (s : Nat → Nat) (op d a b c i : Int) : stepN n s ⟨op, d, a, b, c, i⟩ = if op = 0 then some s else if op = 1 then some (updN s d.toNat i.toNat) else if (op = 11 ∨ op = 12) ∧ s b.toNat = 0 then none else if op = 19 then some (updN s d.toNat (if s a.toNat ≠ 0 then s b.toNat else s c.toNat)) else some (updN s d.toNat (valN op n (s a.toNat) (s b.toNat))) := rfl
theorem updN_lt {s : Nat → Nat} {k v : Nat} (hs : ∀ j, j < 8 → s j < 18446744073709551616) (hv : v < 18446744073709551616) : ∀ j, j < 8 → updN s k v j < 18446744073709551616 := by
  intro j hj
  unfold updN
  by_cases e : j = k
  · rw [if_pos e]; exact hv
  · rw [if_neg e]; exact hs j hj
theorem ins_block {w : World} {g : Nat} {t : TypeId} {fr : Nat × Nat} {v0 v1 v2 v3 v4 v5 : Value} (h : w.heap[g]? = some (.cells #[v0, v1, v2, v3, v4, v5] t fr)) : w.cell? ⟨g, 0, none⟩ = some v0 ∧ w.cell? ⟨g, 1, none⟩ = some v1 ∧ w.cell? ⟨g, 2, none⟩ = some v2 ∧ w.cell? ⟨g, 3, none⟩ = some v3 ∧ w.cell? ⟨g, 4, none⟩ = some v4 ∧ w.cell? ⟨g, 5, none⟩ = some v5 :=
  ⟨by rw [cell_of_row _ _ 0 _ _ _ h]; rfl, by rw [cell_of_row _ _ 1 _ _ _ h]; rfl, by rw [cell_of_row _ _ 2 _ _ _ h]; rfl, by rw [cell_of_row _ _ 3 _ _ _ h]; rfl, by rw [cell_of_row _ _ 4 _ _ _ h]; rfl, by rw [cell_of_row _ _ 5 _ _ _ h]; rfl⟩
theorem dec_nat (v : Nat) : decide (v = 0) = ((v : Int) == 0) := by by_cases h : v = 0 <;> simp [h]
abbrev zero8 : Array Value := #[.int .u64 0, .int .u64 0, .int .u64 0, .int .u64 0, .int .u64 0, .int .u64 0, .int .u64 0, .int .u64 0]
set_option maxRecDepth 20000 in
set_option maxHeartbeats 4000000 in
theorem ref50_Run (S : Nat → Prop) (c : Cd) (p : CdAt) (n : Nat) (m : Nat → Nat) (w : World) (h : CdRd S w c p) (hn : c.width = (n : Int)) (h1 : 1 ≤ n) (h2 : n ≤ 64) (hr : 1 ≤ c.regs ∧ c.regs ≤ 8) (hl : c.ins.length ≤ 256) (hins : ∀ x ∈ c.ins, insErr c.width c.regs x = 0) (hm : ∀ j, j < 8 → m j < 18446744073709551616) (himm : ∀ x ∈ c.ins, 0 ≤ x.imm ∧ x.imm < 18446744073709551616) :
    Calls Tryd.prog 19 #[cdVal c p, .agg (cells8 m)] w fun e w' => e = .returned (.tuple #[.agg (cells8 (runN n c.ins (cutS n m 8)).1), .bool (runN n c.ins (cutS n m 8)).2]) ∧ Below w.heap.size w w' := by
  obtain ⟨ia, ic, oa, oc⟩ := p
  have BW := Lib.hid (below_alloc (below_alloc (below_alloc (Below.refl w.heap.size w) (.cells (cellsC c ia ic oa oc) 25)) (.cells (cells8 m) 34)) (.cells zero8 34))
  have KC := Lib.hid (block_alloc (block_alloc (heap_alloc_new w (.cells (cellsC c ia ic oa oc) 25)) (.cells (cells8 m) 34)) (.cells zero8 34))
  have KM := Lib.hid (block_alloc (block_at1 w (.cells (cellsC c ia ic oa oc) 25) (.cells (cells8 m) 34)) (.cells zero8 34))
  have KZ : Hid ((((w.alloc (.cells (cellsC c ia ic oa oc) 25)).alloc (.cells (cells8 m) 34)).alloc (.cells zero8 34)).heap[w.heap.size + 1 + 1]? = some (.cells (cells8 fun _ => 0) 34 (0, 0))) := block_at2 w _ _ _
  have HI : Hid (Rd kIn S w ia ic c.ins) := h.ins
  have hil := h.ins.le
  have HR := Lib.hid hr
  have HM := Lib.hid hm
  have HIM := Lib.hid himm
  have HIN := Lib.hid hins
  have HN := Lib.hid hn
  clear h hm himm hn hins hr
  unfold cdVal
  go_enter Tryd.func19, Tryd.ntmps19
  obtain ⟨z0, z1, z2, z3⟩ := cd_block4 KC.out
  obtain ⟨m0, m1, m2, m3, m4, m5, m6, m7⟩ := num_cells KM.out
  have B3 := Lib.hid (below_alloc BW.out (.cells (cells8 m) 34))
  have KC3 := Lib.hid (block_alloc KC.out (.cells (cells8 m) 34))
  have KZ3 := Lib.hid (block_alloc KZ.out (.cells (cells8 m) 34))
  have KS3 := Lib.hid (block_at3 w (.cells (cellsC c ia ic oa oc) 25) (.cells (cells8 m) 34) (.cells zero8 34) (.cells (cells8 m) 34))
  go_wp2_with fail
  clear z0 z1 z2 z3 m0 m1 m2 m3 m4 m5 m6 m7 BW KC KM KZ
  go_loopw [7] (fun i wr => ∃ k : Nat, k ≤ 8 ∧ i = .int .i64 k ∧ Hid (wr.heap[w.heap.size + 1 + 1 + 1]? = some (.cells (cells8 (cutS n m k)) 34 (0, 0))) ∧ Hid (wr.heap[w.heap.size + 1 + 1]? = some (.cells (cells8 fun _ => 0) 34 (0, 0))) ∧ Hid (wr.heap[w.heap.size]? = some (.cells (cellsC c ia ic oa oc) 25 (0, 0))) ∧ Hid (Below w.heap.size w wr)) (fun i _ => 8 - (intOf i).toNat)
  case atStart => exact ⟨0, by omega, rfl, KS3.out, KZ3.out, KC3.out, B3.out⟩
  case round =>
    obtain ⟨k, hk, rfl, KS, KZ, KC, HB⟩ := hrel
    obtain ⟨z0, z1, z2, z3⟩ := cd_block4 KC.out
    rw [HN.out] at z0
    by_cases hlt : k < 8
    · have hkl : (k : Int) < 8 := by omega
      obtain ⟨s0, s1, s2⟩ := num_at KS.out hlt
      have HX : Hid (cutS n m k k < 18446744073709551616) := by show _ < _; unfold cutS; rw [if_neg (by omega)]; exact HM.out k hlt
      have HE : Hid (cutS n m (k + 1) = updN (cutS n m k) k (cutS n m k k % 2 ^ n)) := by show _ = _; rw [cutS_succ]; congr 2; unfold cutS; rw [if_neg (by omega)]
      generalize cutS n m k = s at *
      have CC := Lib.hid (fun W => ref01_Cut n (s k) W h1 h2 HX.out)
      generalize s k % 2 ^ n = X at *
      go_wp2_with fail
      go_region_law
        (first
        | (go_simp; go_at_call 42; refine (CC.out _).mono ?_; rintro e w5 ⟨rfl, d5⟩; have KS5 := Lib.hid (d5.heap KS.out); have KZ5 := Lib.hid (d5.heap KZ.out); have KC5 := Lib.hid (d5.heap KC.out); have B5 := Lib.hid (below_both (below_drewN HB.out 1) (d5.below _)); have s9 := (num_at KS5.out hlt).2.1; have s8 := (num_at KS5.out hlt).1; clear d5)
        | fail)
      all_goals
        go_wp2_with fail
        go_roundw
        case rel =>
          refine ⟨k + 1, by omega, by go_num, ?_, ?_, ?_, ?_⟩
          · rw [HE.out]; exact (num_at KS5.out hlt).2.2 _
          · exact block_far KZ5.out _ (by show w.heap.size + 1 + 1 ≠ w.heap.size + 1 + 1 + 1; omega)
          · exact block_far KC5.out _ (by show w.heap.size ≠ w.heap.size + 1 + 1 + 1; omega)
          · exact B5.out.setCell (by show w.heap.size ≤ w.heap.size + 1 + 1 + 1; omega) _
        case measure => simp [intOf]; omega
    · have hk8 : k = 8 := by omega
      have hnl : ¬ ((k : Int) < 8) := by omega
      have hnd : decide ((k : Int) < 8) = false := decide_eq_false hnl
      rw [hk8] at KS
      clear z0 z1 z2 z3 hk8 hk hlt
      obtain ⟨W4, hW4⟩ : ∃ W4, W4 = wr := ⟨_, rfl⟩
      subst hW4
      have HS8 : Hid (∀ j, j < 8 → cutS n m 8 j < 18446744073709551616) := by
        intro j hj
        unfold cutS
        show (if _ then _ else _) < _
        rw [if_pos hj]
        exact mod_u64 _ h2
      obtain ⟨s0, hs0⟩ : ∃ s0, s0 = cutS n m 8 := ⟨_, rfl⟩
      have HS0 := Lib.hid hs0
      rw [← hs0] at HS8 KS
      clear hs0
      go_wp2_with fail
      go_loopw [8] (fun i wr => ∃ (j : Nat) (s : Nat → Nat), j ≤ c.ins.length ∧ i = .int .i64 j ∧ Hid (∀ j, j < 8 → s j < 18446744073709551616) ∧ Hid (runN n c.ins s0 = runN n (c.ins.drop j) s) ∧ Hid (wr.heap[w.heap.size + 1 + 1 + 1]? = some (.cells (cells8 s) 34 (0, 0))) ∧ Hid (wr.heap[w.heap.size + 1 + 1]? = some (.cells (cells8 fun _ => 0) 34 (0, 0))) ∧ Hid (wr.heap[w.heap.size]? = some (.cells (cellsC c ia ic oa oc) 25 (0, 0))) ∧ Hid (Below w.heap.size w wr)) (fun i _ => c.ins.length - (intOf i).toNat)
      case atStart => exact ⟨0, s0, by omega, rfl, HS8.out, by show _ = _; rw [List.drop_zero], KS.out, KZ.out, KC.out, HB.out⟩
      case round =>
        clear KS KZ KC HB HS8
        obtain ⟨j, s, hj, rfl, HSB, HRUN, KS, KZ, KC, HB⟩ := hrel
        obtain ⟨z0, z1, z2, z3⟩ := cd_block4 KC.out
        rw [HN.out] at z0
        by_cases hlt : j < c.ins.length
        · obtain ⟨b, o, rfl, -, hbw0, hat0⟩ := in_elem HI.out hlt
          obtain ⟨c0, c1, c2, c3, c4, c5⟩ := hat0.frame (w' := wr) (HB.out.block b hbw0)
          have hf := ins_fields HR.out.1 (HIN.out _ (List.getElem_mem hlt))
          have hi := HIM.out _ (List.getElem_mem hlt)
          have hdr : Hid (runN n (c.ins.drop j) s = match stepN n s c.ins[j] with | none => (s, false) | some s' => runN n (c.ins.drop (j + 1)) s') := by show _ = _; rw [List.drop_eq_getElem_cons hlt]; rfl
          have hj3 : (j : Int) < (c.ins.length : Int) := by omega
          clear hat0
          generalize c.ins[j] = x at *
          obtain ⟨op, xd, xa, xb, xc, xi⟩ := x
          have KX9 := Lib.hid (heap_alloc_new wr (.cells #[.int .i64 op, .int .i64 xd, .int .i64 xa, .int .i64 xb, .int .i64 xc, .int .u64 xi] 54))
          have KS9 := Lib.hid (block_alloc KS.out (.cells #[.int .i64 op, .int .i64 xd, .int .i64 xa, .int .i64 xb, .int .i64 xc, .int .u64 xi] 54))
          have KZ9 := Lib.hid (block_alloc KZ.out (.cells #[.int .i64 op, .int .i64 xd, .int .i64 xa, .int .i64 xb, .int .i64 xc, .int .u64 xi] 54))
          have KC9 := Lib.hid (block_alloc KC.out (.cells #[.int .i64 op, .int .i64 xd, .int .i64 xa, .int .i64 xb, .int .i64 xc, .int .u64 xi] 54))
          have B9 := Lib.hid (below_alloc HB.out (.cells #[.int .i64 op, .int .i64 xd, .int .i64 xa, .int .i64 xb, .int .i64 xc, .int .u64 xi] 54))
          go_upto_region 11 with fail
          clear z0 z1 z2 z3 c0 c1 c2 c3 c4 c5 KS KZ KC HB
          generalize wr.alloc (.cells #[.int .i64 op, .int .i64 xd, .int .i64 xa, .int .i64 xb, .int .i64 xc, .int .u64 xi] 54) = W9 at *
          generalize wr.heap.size = g9 at *
          obtain ⟨x0, x1, x2, x3, x4, x5⟩ := ins_block KX9.out
          obtain ⟨z0, z1, z2, z3⟩ := cd_block4 KC9.out
          rw [HN.out] at z0
          by_cases e0 : op = 0
          · subst e0
            have HST : Hid (runN n (c.ins.drop j) s = runN n (c.ins.drop (j + 1)) s) := by show _ = _; rw [hdr.out, stepN_eq, if_pos rfl]
            clear hdr hf hi
            go_wp2_with fail
            go_roundw
            case rel => exact ⟨j + 1, s, by omega, by go_num, HSB.out, HRUN.out.trans HST.out, KS9.out, KZ9.out, KC9.out, B9.out⟩
            case measure => simp [intOf]; omega
          have t0 : (op == 0) = false := by simpa using e0
          obtain ⟨⟨ho0, ho1⟩, hd, ha, hb, hc⟩ := hf
          replace ho0 : 0 ≤ op := ho0
          have hd := hd (by show 1 ≤ op; omega)
          obtain ⟨D, hD⟩ := Int.eq_ofNat_of_zero_le hd.1
          obtain ⟨A, hA⟩ := Int.eq_ofNat_of_zero_le ha.1
          obtain ⟨B, hB⟩ := Int.eq_ofNat_of_zero_le hb.1
          obtain ⟨C, hC⟩ := Int.eq_ofNat_of_zero_le hc.1
          obtain ⟨I, hI⟩ := Int.eq_ofNat_of_zero_le hi.1
          have h8 := HR.out.2
          replace hD : xd = (D : Int) := hD
          replace hA : xa = (A : Int) := hA
          replace hB : xb = (B : Int) := hB
          replace hC : xc = (C : Int) := hC
          replace hI : xi = (I : Int) := hI
          subst hD hA hB hC hI
          have hI2 : I < 18446744073709551616 := by have : ((I : Nat) : Int) < 18446744073709551616 := hi.2; omega
          have hD8 : D < 8 := by have : ((D : Nat) : Int) < c.regs := hd.2; omega
          have hA8 : A < 8 := by have : ((A : Nat) : Int) < c.regs := ha.2; omega
          have hB8 : B < 8 := by have : ((B : Nat) : Int) < c.regs := hb.2; omega
          have hC8 : C < 8 := by have : ((C : Nat) : Int) < c.regs := hc.2; omega
          have iD : (D : Int) < 8 := by omega
          have iA : (A : Int) < 8 := by omega
          have iB : (B : Int) < 8 := by omega
          have iC : (C : Int) < 8 := by omega
          obtain ⟨nd, fd, -⟩ := num_at KS9.out hD8
          have US := Lib.hid (num_at KS9.out hD8).2.2
          have na := (num_at KS9.out hA8).1
          have nb := (num_at KS9.out hB8).1
          have nc := (num_at KS9.out hC8).1
          have LA := Lib.hid (HSB.out A hA8)
          have LB := Lib.hid (HSB.out B hB8)
          have LC := Lib.hid (HSB.out C hC8)
          have UZ : Hid (∀ v, (W9.setCell ⟨w.heap.size + 1 + 1 + 1, D, none⟩ v).heap[w.heap.size + 1 + 1]? = some (.cells (cells8 fun _ => 0) 34 (0, 0))) := fun v => block_far KZ9.out _ (by show w.heap.size + 1 + 1 ≠ w.heap.size + 1 + 1 + 1; omega)
          have UC : Hid (∀ v, (W9.setCell ⟨w.heap.size + 1 + 1 + 1, D, none⟩ v).heap[w.heap.size]? = some (.cells (cellsC c (some ⟨b, o, none⟩) ic oa oc) 25 (0, 0))) := fun v => block_far KC9.out _ (by show w.heap.size ≠ w.heap.size + 1 + 1 + 1; omega)
          have UB : Hid (∀ v, Below w.heap.size w (W9.setCell ⟨w.heap.size + 1 + 1 + 1, D, none⟩ v)) := fun v => B9.out.setCell (by show w.heap.size ≤ w.heap.size + 1 + 1 + 1; omega) _
          rw [stepN_eq, if_neg e0] at hdr
          simp only [Int.toNat_natCast] at hdr
          clear hd ha hb hc hi
          by_cases e1 : op = 1
          · subst e1
            have HST : Hid (runN n (c.ins.drop j) s = runN n (c.ins.drop (j + 1)) (updN s D I)) := by show _ = _; rw [hdr.out, if_pos rfl]
            clear hdr
            go_wp2_with fail
            go_roundw
            case rel => exact ⟨j + 1, updN s D I, by omega, by go_num, updN_lt HSB.out hI2, HRUN.out.trans HST.out, US.out _, UZ.out _, UC.out _, UB.out _⟩
            case measure => simp [intOf]; omega
          have t1 : (op == 1) = false := by simpa using e1
          rw [if_neg e1] at hdr
          obtain ⟨tr, htr⟩ : ∃ tr : Bool, tr = decide ((op = 11 ∨ op = 12) ∧ s B = 0) := ⟨_, rfl⟩
          have HTR := Lib.hid htr
          clear htr
          go_upto_region 14 with fail
          go_cut [64] (fun q wx => q = .bool tr ∧ wx = W9)
          case first =>
            generalize s B = vb at *
            clear hdr LA LB LC US UZ UC UB na nc nd fd
            by_cases e11 : op = 11
            · subst e11
              have hq : Hid (tr = ((vb : Int) == 0)) := by show _ = _; rw [HTR.out, ← dec_nat]; simp
              go_wp2_with fail
              go_meet
              case rel => exact ⟨by rw [hq.out], rfl⟩
            have t11 : (op == 11) = false := by simpa using e11
            by_cases e12 : op = 12
            · subst e12
              have hq : Hid (tr = ((vb : Int) == 0)) := by show _ = _; rw [HTR.out, ← dec_nat]; simp
              go_wp2_with fail
              go_meet
              case rel => exact ⟨by rw [hq.out], rfl⟩
            have t12 : (op == 12) = false := by simpa using e12
            have hq : Hid (tr = false) := by show _ = _; rw [HTR.out]; simp [e11, e12]
            go_wp2_with fail
            go_meet
            case rel => exact ⟨by rw [hq.out], rfl⟩
          case rest =>
            obtain ⟨rfl, hwc⟩ := hcut
            subst hwc
            by_cases htr : (op = 11 ∨ op = 12) ∧ s B = 0
            · have HST : Hid (runN n (c.ins.drop j) s = (s, false)) := by show _ = _; rw [hdr.out, if_pos htr]
              obtain rfl : tr = true := HTR.out.trans (decide_eq_true htr)
              clear hdr htr LA LB LC t0 t1 e0 e1 na nb nc nd fd x0 x1 x2 x3 x4 x5 z0 z1 z2 z3
              obtain ⟨n0, n1, n2, n3, n4, n5, n6, n7⟩ := num_cells KS9.out
              obtain ⟨y0, y1, y2, y3, y4, y5, y6, y7⟩ := num_cells KZ9.out
              have yf : ∀ i, wc.frozen? ⟨w.heap.size + 1 + 1, i, none⟩ = false := fun i => frozen_of_block KZ9.out
              go_wp2_with fail
              refine bodyPost_ret_block2 (cs := cells8 s) (w.heap.size + 1 + 1) (0, 0) _ rfl rfl rfl (num_eight KZ9.out s) Tryd.underlying34 rfl (by kernel_rfl) rfl ⟨?_, below_eight_n B9.out (by omega) _⟩
              rw [← HS0.out, HRUN.out.trans HST.out]
              rfl
            obtain rfl : tr = false := HTR.out.trans (decide_eq_false htr)
            by_cases e19 : op = 19
            · subst e19
              rw [if_neg htr, if_pos rfl] at hdr
              by_cases hz : s A = 0
              · have HST : Hid (runN n (c.ins.drop j) s = runN n (c.ins.drop (j + 1)) (updN s D (s C))) := by show _ = _; rw [hdr.out, if_neg (not_not_intro hz)]
                rw [hz] at na
                clear hdr hz htr LA LB
                generalize s C = vc at *
                go_wp2_with fail
                go_still_tail 7, (by kernel_rfl)
                change wpList _ _ _ _ _ wc.drew
                go_wp2_with fail
                go_roundw
                case rel => exact ⟨j + 1, updN s D vc, by omega, by go_num, updN_lt HSB.out LC.out, HRUN.out.trans HST.out, US.out _, UZ.out _, UC.out _, Lib.hid (below_drewN (UB.out (.int .u64 (vc : Int))) 1)⟩
                case measure => simp [intOf]; omega
              · have HST : Hid (runN n (c.ins.drop j) s = runN n (c.ins.drop (j + 1)) (updN s D (s B))) := by show _ = _; rw [hdr.out, if_pos hz]
                generalize s A = va at *
                have ta : ((va : Int) != 0) = true := by simpa using hz
                clear hdr hz htr LA LC
                generalize s B = vb at *
                go_wp2_with fail
                go_still_tail 7, (by kernel_rfl)
                change wpList _ _ _ _ _ wc.drew
                go_wp2_with fail
                go_roundw
                case rel => exact ⟨j + 1, updN s D vb, by omega, by go_num, updN_lt HSB.out LB.out, HRUN.out.trans HST.out, US.out _, UZ.out _, UC.out _, Lib.hid (below_drewN (UB.out (.int .u64 (vb : Int))) 1)⟩
                case measure => simp [intOf]; omega
            have t19 : (op == 19) = false := by simpa using e19
            rw [if_neg htr, if_neg e19] at hdr
            have HST : Hid (runN n (c.ins.drop j) s = runN n (c.ins.drop (j + 1)) (updN s D (valN op n (s A) (s B)))) := by show _ = _; rw [hdr.out]
            have HV := Lib.hid (valN_lt op n (s A) (s B) h1 h2 LA.out)
            have CV := Lib.hid (fun W => ref50_value op n (s A) (s B) W h1 h2 LA.out LB.out)
            generalize valN op n (s A) (s B) = Y at *
            generalize s A = va at *
            generalize s B = vb at *
            clear hdr htr LA LB LC nc HTR
            go_upto_region 10 with fail
            refine wp_region_pop 16 (by rfl) (by kernel_rfl) (by kernel_rfl) (by kernel_rfl) ?_
            simp only [List.take_succ_cons, List.take_zero]
            have hS0 : (fun w' : World => w'.cell? ⟨g9, 0, none⟩ = some (.int .i64 op) ∧ w'.cell? ⟨g9, 1, none⟩ = some (.int .i64 (D : Int)) ∧ w'.cell? ⟨g9, 2, none⟩ = some (.int .i64 (A : Int)) ∧ w'.cell? ⟨g9, 3, none⟩ = some (.int .i64 (B : Int)) ∧ w'.cell? ⟨w.heap.size, 0, none⟩ = some (.int .i64 (n : Int)) ∧ w'.cell? ⟨w.heap.size + 1 + 1 + 1, A, none⟩ = some (.int .u64 (va : Int)) ∧ w'.cell? ⟨w.heap.size + 1 + 1 + 1, B, none⟩ = some (.int .u64 (vb : Int))) wc.drew := ⟨x0, x1, x2, x3, z0, na, nb⟩
            refine wpAny_of_held (S := fun w' : World => w'.cell? ⟨g9, 0, none⟩ = some (.int .i64 op) ∧ w'.cell? ⟨g9, 1, none⟩ = some (.int .i64 (D : Int)) ∧ w'.cell? ⟨g9, 2, none⟩ = some (.int .i64 (A : Int)) ∧ w'.cell? ⟨g9, 3, none⟩ = some (.int .i64 (B : Int)) ∧ w'.cell? ⟨w.heap.size, 0, none⟩ = some (.int .i64 (n : Int)) ∧ w'.cell? ⟨w.heap.size + 1 + 1 + 1, A, none⟩ = some (.int .u64 (va : Int)) ∧ w'.cell? ⟨w.heap.size + 1 + 1 + 1, B, none⟩ = some (.int .u64 (vb : Int))) _ _ _ _ ?_
            refine wpAnyH_take (i := 0) (oi := _) (v := ?_) rfl (by kernel_rfl) (by kernel_rfl) (by kernel_rfl) (fun _ _ _ h => h) (Or.inl ⟨by rfl, ?_⟩) hS0 ?_
            rotate_left
            · intro w0 hSw
              go_simp
              with_reducible rfl
            try simp only [Act.put, List.getElem_toArray, List.getElem_cons_zero, List.getElem_cons_succ, List.setIfInBounds_toArray, List.set_cons_zero, List.set_cons_succ]
            refine wpAnyH_take (i := 1) (oi := _) (v := ?_) rfl (by kernel_rfl) (by kernel_rfl) (by kernel_rfl) (fun _ _ _ h => h) (Or.inl ⟨by rfl, ?_⟩) hS0 ?_
            rotate_left
            · intro w0 hSw
              go_simp
              with_reducible rfl
            try simp only [Act.put, List.getElem_toArray, List.getElem_cons_zero, List.getElem_cons_succ, List.setIfInBounds_toArray, List.set_cons_zero, List.set_cons_succ]
            refine wpAnyH_take (i := 2) (oi := _) (v := ?_) rfl (by kernel_rfl) (by kernel_rfl) (by kernel_rfl) (fun _ _ _ h => h) (Or.inl ⟨by rfl, ?_⟩) hS0 ?_
            rotate_left
            · intro w0 hSw
              go_simp
              with_reducible rfl
            try simp only [Act.put, List.getElem_toArray, List.getElem_cons_zero, List.getElem_cons_succ, List.setIfInBounds_toArray, List.set_cons_zero, List.set_cons_succ]
            refine wpAnyH_take (i := 3) (oi := _) (v := ?_) rfl (by kernel_rfl) (by kernel_rfl) (by kernel_rfl) (fun _ _ _ h => h) (Or.inl ⟨by rfl, ?_⟩) hS0 ?_
            rotate_left
            · intro w0 hSw
              go_simp
              with_reducible rfl
            try simp only [Act.put, List.getElem_toArray, List.getElem_cons_zero, List.getElem_cons_succ, List.setIfInBounds_toArray, List.set_cons_zero, List.set_cons_succ]
            refine wpAnyH_take (i := 4) (oi := _) (v := ?_) rfl (by kernel_rfl) (by kernel_rfl) (by kernel_rfl) (fun _ _ _ h => h) (Or.inl ⟨by rfl, ?_⟩) hS0 ?_
            rotate_left
            · intro w0 hSw
              go_simp
              with_reducible rfl
            try simp only [Act.put, List.getElem_toArray, List.getElem_cons_zero, List.getElem_cons_succ, List.setIfInBounds_toArray, List.set_cons_zero, List.set_cons_succ]
            refine wpAnyH_take (i := 5) (oi := _) (v := ?_) rfl (by kernel_rfl) (by kernel_rfl) (by kernel_rfl) (fun _ _ _ h => h) (Or.inl ⟨by rfl, ?_⟩) hS0 ?_
            rotate_left
            · intro w0 hSw
              go_simp
              with_reducible rfl
            try simp only [Act.put, List.getElem_toArray, List.getElem_cons_zero, List.getElem_cons_succ, List.setIfInBounds_toArray, List.set_cons_zero, List.set_cons_succ]
            refine wpAnyH_take (i := 6) (oi := _) (v := ?_) rfl (by kernel_rfl) (by kernel_rfl) (by kernel_rfl) (fun _ _ _ h => h) (Or.inl ⟨by rfl, ?_⟩) hS0 ?_
            rotate_left
            · intro w0 hSw
              go_simp
              with_reducible rfl
            try simp only [Act.put, List.getElem_toArray, List.getElem_cons_zero, List.getElem_cons_succ, List.setIfInBounds_toArray, List.set_cons_zero, List.set_cons_succ]
            refine wpAnyH_take (i := 7) (oi := _) (v := ?_) rfl (by kernel_rfl) (by kernel_rfl) (by kernel_rfl) (fun _ _ _ h => h) (Or.inl ⟨by rfl, ?_⟩) hS0 ?_
            rotate_left
            · intro w0 hSw
              go_simp
              with_reducible rfl
            try simp only [Act.put, List.getElem_toArray, List.getElem_cons_zero, List.getElem_cons_succ, List.setIfInBounds_toArray, List.set_cons_zero, List.set_cons_succ]
            refine wpAnyH_take (i := 8) (oi := _) (v := ?_) rfl (by kernel_rfl) (by kernel_rfl) (by kernel_rfl) (fun _ _ _ h => h) (Or.inl ⟨by rfl, ?_⟩) hS0 ?_
            rotate_left
            · intro w0 hSw
              go_simp
              with_reducible rfl
            try simp only [Act.put, List.getElem_toArray, List.getElem_cons_zero, List.getElem_cons_succ, List.setIfInBounds_toArray, List.set_cons_zero, List.set_cons_succ]
            refine wpAnyH_take (i := 9) (oi := _) (v := ?_) rfl (by kernel_rfl) (by kernel_rfl) (by kernel_rfl) (fun _ _ _ h => h) (Or.inl ⟨by rfl, ?_⟩) hS0 ?_
            rotate_left
            · intro w0 hSw
              go_simp
              with_reducible rfl
            try simp only [Act.put, List.getElem_toArray, List.getElem_cons_zero, List.getElem_cons_succ, List.setIfInBounds_toArray, List.set_cons_zero, List.set_cons_succ]
            refine wpAnyH_take (i := 10) (oi := _) (v := ?_) rfl (by kernel_rfl) (by kernel_rfl) (by kernel_rfl) (fun _ _ _ h => h) (Or.inl ⟨by rfl, ?_⟩) hS0 ?_
            rotate_left
            · intro w0 hSw
              go_simp
              with_reducible rfl
            try simp only [Act.put, List.getElem_toArray, List.getElem_cons_zero, List.getElem_cons_succ, List.setIfInBounds_toArray, List.set_cons_zero, List.set_cons_succ]
            refine wpAnyH_take (i := 11) (oi := _) (v := ?_) rfl (by kernel_rfl) (by kernel_rfl) (by kernel_rfl) (fun _ _ _ h => h) (Or.inl ⟨by rfl, ?_⟩) hS0 ?_
            rotate_left
            · intro w0 hSw
              go_simp
              with_reducible rfl
            try simp only [Act.put, List.getElem_toArray, List.getElem_cons_zero, List.getElem_cons_succ, List.setIfInBounds_toArray, List.set_cons_zero, List.set_cons_succ]
            refine wpAnyH_take (i := 12) (oi := _) (v := ?_) rfl (by kernel_rfl) (by kernel_rfl) (by kernel_rfl) (fun _ _ _ h => h) (Or.inl ⟨by rfl, ?_⟩) hS0 ?_
            rotate_left
            · intro w0 hSw
              go_simp
              with_reducible rfl
            try simp only [Act.put, List.getElem_toArray, List.getElem_cons_zero, List.getElem_cons_succ, List.setIfInBounds_toArray, List.set_cons_zero, List.set_cons_succ]
            refine wpAnyH_take (i := 13) (oi := _) (v := ?_) rfl (by kernel_rfl) (by kernel_rfl) (by kernel_rfl) (fun _ _ _ h => h) (Or.inl ⟨by rfl, ?_⟩) hS0 ?_
            rotate_left
            · intro w0 hSw
              go_simp
              with_reducible rfl
            try simp only [Act.put, List.getElem_toArray, List.getElem_cons_zero, List.getElem_cons_succ, List.setIfInBounds_toArray, List.set_cons_zero, List.set_cons_succ]
            refine wpAnyH_ready (rs := [14]) (by kernel_rfl) (by simp) ?_
            refine AllReadyH.cons (o := _) rfl (fun K hK => ?_) AllReadyH.nil
            go_simp
            go_at_call 43
            refine (CV.out _).mono ?_
            rintro e w5 ⟨rfl, d5⟩
            have KS5 := Lib.hid (d5.heap KS9.out)
            have KZ5 := Lib.hid (d5.heap KZ9.out)
            have KC5 := Lib.hid (d5.heap KC9.out)
            have B5 := Lib.hid (below_both (below_drewN B9.out 1) (d5.below _))
            have s9 := (num_at KS5.out hD8).2.1
            have s8 := (num_at KS5.out hD8).1
            refine hK.out _ _ ⟨d5.cell x0, d5.cell x1, d5.cell x2, d5.cell x3, d5.cell z0, d5.cell na, d5.cell nb⟩ (fun hS0 => ?_)
            clear hK K
            try simp only [Act.put, List.getElem_toArray, List.getElem_cons_zero, List.getElem_cons_succ, List.setIfInBounds_toArray, List.set_cons_zero, List.set_cons_succ]
            refine wpAnyH_take (i := 15) (oi := _) (v := ?_) rfl (by kernel_rfl) (by kernel_rfl) (by kernel_rfl) (fun _ _ _ h => h) (Or.inl ⟨by rfl, ?_⟩) hS0 ?_
            rotate_left
            · intro w0 hSw
              go_simp
              with_reducible rfl
            try simp only [Act.put, List.getElem_toArray, List.getElem_cons_zero, List.getElem_cons_succ, List.setIfInBounds_toArray, List.set_cons_zero, List.set_cons_succ]
            refine wpAnyH_done (by kernel_rfl) ?_ _
            refine lastQ_step (o := _) (by rfl) (fun K hK => ?_)
            go_simp
            refine hK _ _ ?_
            clear hK K hS0
            go_wp2_with fail
            go_roundw
            case rel => exact ⟨j + 1, updN s D Y, by omega, by go_num, updN_lt HSB.out HV.out, HRUN.out.trans HST.out, (num_at KS5.out hD8).2.2 _, block_far KZ5.out _ (by show w.heap.size + 1 + 1 ≠ w.heap.size + 1 + 1 + 1; omega), block_far KC5.out _ (by show w.heap.size ≠ w.heap.size + 1 + 1 + 1; omega), B5.out.setCell (by show w.heap.size ≤ w.heap.size + 1 + 1 + 1; omega) _⟩
            case measure => simp [intOf]; omega
        · obtain rfl : j = c.ins.length := by omega
          have HST : Hid (runN n c.ins s0 = (s, true)) := by show _ = _; rw [HRUN.out, List.drop_length]; rfl
          obtain ⟨n0, n1, n2, n3, n4, n5, n6, n7⟩ := num_cells KS.out
          obtain ⟨y0, y1, y2, y3, y4, y5, y6, y7⟩ := num_cells KZ.out
          have yf : ∀ i, wr.frozen? ⟨w.heap.size + 1 + 1, i, none⟩ = false := fun i => frozen_of_block KZ.out
          go_wp2_with fail
          refine bodyPost_ret_block2 (cs := cells8 s) (w.heap.size + 1 + 1) (0, 0) _ rfl rfl rfl (num_eight KZ.out s) Tryd.underlying34 rfl (by kernel_rfl) rfl ⟨?_, below_eight_n HB.out (by omega) _⟩
          rw [← HS0.out, HST.out]
          rfl
end Go.Proofs.Sat
