/- LvM, LvL, LvN, LvE, one after the other. -/
import Derived.Test.YtkomfeeimdlokaaGreatDoorLvQ4
import Derived.Test.YtkomfeeimdlokaaGreatDoorIsaY
import Derived.Test.YtkomfeeimdlokaaGreatDoorEqW
set_option linter.unusedVariables false
set_option linter.unusedSimpArgs false
/- The walks of the reference's Same and Without. -/
namespace Go.Proofs.Sat
open Go Go.RowKit
theorem er_succ {α : Type} {l : List α} {k i : Nat} (hk : k < l.length) : (l.take (k + 1)).eraseIdx i = if k = i then (l.take k).eraseIdx i else (l.take k).eraseIdx i ++ [l[k]] := by
  rw [List.take_succ_eq_append_getElem hk]
  have hl : (l.take k).length = k := by simp; omega
  by_cases e : k = i
  · have h2 : (l.take k).eraseIdx i = l.take k := List.eraseIdx_of_length_le (by omega)
    rw [if_pos e, h2, List.eraseIdx_append_of_length_le (by omega), show i - (l.take k).length = 0 by omega]
    simp
  · rw [if_neg e]
    by_cases h : i < k
    · rw [List.eraseIdx_append_of_lt_length (by omega)]
    · rw [List.eraseIdx_of_length_le (by simp; omega), List.eraseIdx_of_length_le (by omega)]
/-- A program without instruction i. -/
def wout (c : Cd) (i : Nat) : Cd := { c with ins := c.ins.eraseIdx i }
end Go.Proofs.Sat
/- Plain laws of dead instructions. -/
namespace Go.Proofs.Sat
open Go Go.RowKit
def cd0 : Cd := ⟨0, 0, [], []⟩
/-- The instructions that are not dead. -/
def keepR (out : List Int) : List In → List In
  | [] => []
  | x :: l => if deadB (stateR out (keepR out l)) x = true then keepR out l else x :: keepR out l
theorem keepR_sub (out : List Int) : ∀ l, List.Sublist (keepR out l) l
  | [] => List.Sublist.refl _
  | x :: l => by
    unfold keepR
    split
    · exact (keepR_sub out l).cons x
    · exact (keepR_sub out l).cons_cons x
theorem keepR_drop (out : List Int) (l : List In) {k : Nat} (h : k < l.length) : keepR out (l.drop k) = if deadB (stateR out (keepR out (l.drop (k + 1)))) l[k] = true then keepR out (l.drop (k + 1)) else l[k] :: keepR out (l.drop (k + 1)) := by
  rw [List.drop_eq_getElem_cons h]
  rfl
def remC (c : Cd) : Cd := if cdErr c = 0 then { c with ins := keepR c.out c.ins } else cd0
/-- The program of which the instructions from k on are cleared. -/
def remK (c : Cd) (k : Nat) : Cd := { c with ins := c.ins.take k ++ keepR c.out (c.ins.drop k) }
theorem err_of_ok {c : Cd} (h : CdOK c) : cdErr c = 0 := by
  unfold cdErr
  rw [if_neg (not_not_intro ⟨h.w1, h.w2⟩), if_neg (not_not_intro ⟨h.r1, h.r2⟩), if_neg (by have := h.len; omega), if_neg (not_not_intro (insErrs_zero.2 h.ins)), if_neg, if_neg (not_not_intro h.dup)]
  rw [Bool.not_eq_false, List.all_eq_true]
  exact fun r hr => (inR_iff _ _).2 (h.out r hr)
theorem ok_sub {c : Cd} (h : CdOK c) {l : List In} (hl : List.Sublist l c.ins) : CdOK { c with ins := l } :=
  ⟨h.w1, h.w2, h.r1, h.r2, Nat.le_trans hl.length_le h.len, fun x hx => h.ins x (hl.subset hx), h.out, h.dup⟩
theorem remK_sub (c : Cd) (k : Nat) : List.Sublist (c.ins.take k ++ keepR c.out (c.ins.drop k)) c.ins := by
  have h := List.Sublist.append (List.Sublist.refl (c.ins.take k)) (keepR_sub c.out (c.ins.drop k))
  rwa [List.take_append_drop] at h
theorem remK_ok {c : Cd} (h : CdOK c) (k : Nat) : CdOK (remK c k) := ok_sub h (remK_sub c k)
theorem remK_top (c : Cd) : remK c c.ins.length = c := by
  unfold remK
  rw [List.take_length, List.drop_length]
  cases c
  simp [keepR]
theorem remK_zero (c : Cd) : remK c 0 = { c with ins := keepR c.out c.ins } := by unfold remK; simp
theorem remK_dead {c : Cd} (h : CdOK c) {j : Nat} (hj : j < c.ins.length) : deadL (remK c (j + 1)) j = deadB (stateR c.out (keepR c.out (c.ins.drop (j + 1)))) c.ins[j] := by
  unfold deadL
  rw [decide_eq_true ⟨err_of_ok (remK_ok h _), Int.natCast_nonneg j⟩, Int.toNat_natCast]
  have hl : (c.ins.take (j + 1)).length = j + 1 := by rw [List.length_take]; omega
  have e1 : (remK c (j + 1)).ins[j]? = some c.ins[j] := by
    show (c.ins.take (j + 1) ++ _)[j]? = _
    rw [List.getElem?_append_left (by omega), List.getElem?_take_of_lt (by omega), List.getElem?_eq_getElem hj]
  have e2 : (remK c (j + 1)).ins.drop (j + 1) = keepR c.out (c.ins.drop (j + 1)) := by
    show (c.ins.take (j + 1) ++ _).drop (j + 1) = _
    rw [List.drop_append_of_le_length (by omega), List.drop_of_length_le (by omega), List.nil_append]
  rw [e1, e2]
  rfl
theorem remK_step {c : Cd} {j : Nat} (hj : j < c.ins.length) : remK c j = if deadB (stateR c.out (keepR c.out (c.ins.drop (j + 1)))) c.ins[j] = true then wout (remK c (j + 1)) j else remK c (j + 1) := by
  have hl : (c.ins.take j).length = j := by rw [List.length_take]; omega
  have ht := List.take_succ_eq_append_getElem hj
  by_cases hd : deadB (stateR c.out (keepR c.out (c.ins.drop (j + 1)))) c.ins[j] = true
  · rw [if_pos hd]
    unfold remK wout
    congr 1
    rw [keepR_drop _ _ hj, if_pos hd, ht]
    show _ = ((c.ins.take j ++ [c.ins[j]]) ++ keepR c.out (c.ins.drop (j + 1))).eraseIdx j
    rw [List.append_assoc, List.eraseIdx_append_of_length_le (by omega), show j - (c.ins.take j).length = 0 by omega]
    rfl
  · rw [if_neg hd]
    unfold remK
    congr 1
    rw [keepR_drop _ _ hj, if_neg hd]
    show _ = c.ins.take (j + 1) ++ keepR c.out (c.ins.drop (j + 1))
    rw [ht, List.append_assoc]
    rfl
theorem remK_len (c : Cd) (k : Nat) (hk : k ≤ c.ins.length) : k ≤ (remK c k).ins.length ∧ (remK c k).ins.length ≤ c.ins.length := by
  refine ⟨?_, (remK_sub c k).length_le⟩
  show k ≤ (c.ins.take k ++ _).length
  rw [List.length_append, List.length_take]
  omega
/-- The error of Window. -/
def winErr (c : Cd) (f n : Int) : Int := if cdErr c ≠ 0 then cdErr c else if f < 0 ∨ n < 0 ∨ (c.ins.length : Int) < n ∨ (c.ins.length : Int) - n < f then 2 else 0
end Go.Proofs.Sat
/- The walks of refused, the program's and the reference's; of Remove. -/
namespace Go.Proofs.Sat
open Go Go.RowKit
theorem ret_cd {c d : Cd} {a b : Option Addr} {n m : Nat} {k l : Int} (h1 : c = d) (h2 : k = l) : Ending.returned (.tuple #[.agg (cellsC c a n b m), .int .i64 k]) = .returned (.tuple #[cdVal d ⟨a, n, b, m⟩, .int .i64 l]) := by subst h1 h2; rfl
theorem four_set' {w : World} {g : Nat} {t : TypeId} {c : Cd} {a b : Option Addr} {n m : Nat} (h : w.heap[g]? = some (.cells (cellsC c a n b m) t (0, 0))) (u0 u1 u2 u3 : Value) :
    ((((w.setCell ⟨g, 0, none⟩ u0).setCell ⟨g, 1, none⟩ u1).setCell ⟨g, 2, none⟩ u2).setCell ⟨g, 3, none⟩ u3).heap[g]? = some (.cells #[u0, u1, u2, u3] t (0, 0)) := four_set h u0 u1 u2 u3
end Go.Proofs.Sat
/- The walk of live.Remove. -/
namespace Go.Proofs.Sat
open Go Go.RowKit
theorem run_mkcap {P : Program} {α : Type} {d : Kd α} (w : World) {t e : TypeId} {z : Value} {size bytes : Nat} (I : ElemInfo P t e z size bytes) (hd : d.sz = size) (S : Nat → Prop) {base : Nat} (kl kc : IntKind) (C : Int) (n : Nat) (hC : C = n)
    (hb : bytes * n ≤ 281474976710656) (h63 : n ≤ 9223372036854775807) (hbase : base ≤ w.heap.size) :
    ∃ v' w', (Instr.makeSlice t (.int kl 0) (.int kc C)).run P w = .ok v' w' ∧ Own d e S w' base v' [] ∧ w.grownBy w' none := by
  obtain ⟨i, hi, h2, h3, h4⟩ := info_parts I.hi
  subst hC hd
  have hb' : (i.bytes : Int) * (n : Int) ≤ 281474976710656 := by
    have h : ((i.bytes * n : Nat) : Int) ≤ 281474976710656 := by rw [h4]; omega
    rwa [Int.natCast_mul] at h
  have hr := run_make (P := P) w t e i z I.ht hi h2 kl kc 0 n (by omega) (by omega) hb' (by omega)
  refine ⟨_, _, hr, ⟨[], ⟨by simp, .inr ⟨w.heap.size, n, madeCells z.cells (n * i.size), by simp, hbase, heap_alloc_new w _, by simp, by simpa [maxLen] using h63, by rw [size_madeCells, h3], by simp⟩⟩, .nil⟩, World.grownBy_alloc w _ none⟩
theorem eight_same {S : Nat → Prop} {w : World} {g : Nat} (o : Nat) (hS : ∀ b, S b → b ≠ g) (s : Nat → Bool) : Same S w ((((((((w.setCell ⟨g, o, none⟩ (.bool (s 0))).setCell ⟨g, o + 1, none⟩ (.bool (s 1))).setCell ⟨g, o + 2, none⟩ (.bool (s 2))).setCell ⟨g, o + 3, none⟩ (.bool (s 3))).setCell ⟨g, o + 4, none⟩ (.bool (s 4))).setCell ⟨g, o + 5, none⟩ (.bool (s 5))).setCell ⟨g, o + 6, none⟩ (.bool (s 6))).setCell ⟨g, o + 7, none⟩ (.bool (s 7))) :=
  ⟨by simp [World.setCell], fun b hb _ => eight_far w g o s b (hS b hb)⟩
/-- What stays of the instructions from k on. -/
abbrev kp (c : Cd) (k : Nat) : List In := keepR c.out (c.ins.drop k)
theorem kp_len (c : Cd) (k : Nat) : (kp c k).length ≤ c.ins.length := Nat.le_trans (keepR_sub _ _).length_le (by simp)
set_option maxRecDepth 20000 in
set_option maxHeartbeats 4000000 in
theorem live_Remove (S : Nat → Prop) (c : Cd) (p : CdAt) (w : World) (hK : IsaT w) (h : CdRd S w c p) (hol : c.out.length ≤ 1000000) : Calls Tryz.prog 22 #[cdVal c p] w fun e w' => ∃ p', e = .returned (.tuple #[cdVal (remC c) p', .int .i64 (cdErr c)]) ∧ CdRd (fun _ => True) w' (remC c) p' ∧ Below w.heap.size w w' := by
  obtain ⟨ia, ic, oa, oc⟩ := p
  have BW := Lib.hid (below_alloc (below_alloc (Below.refl w.heap.size w) (.cells (cellsC c ia ic oa oc) 25)) (.cells (cellsC cd0 none 0 none 0) 25))
  have KC := Lib.hid (block_alloc (heap_alloc_new w (.cells (cellsC c ia ic oa oc) 25)) (.cells (cellsC cd0 none 0 none 0) 25))
  have KZ := Lib.hid (block_at1 w (.cells (cellsC c ia ic oa oc) 25) (.cells (cellsC cd0 none 0 none 0) 25))
  have HC := Lib.hid h
  have HI : Hid (Rd kIn S w ia ic c.ins) := h.ins
  have HO : Hid (Rd (Kd.int .i64) S w oa oc c.out) := h.out
  have hil := h.ins.le
  unfold cdVal
  go_enter Tryz.func22, Tryz.ntmps22
  go_wp2_with fail
  refine (isa_Check S c ⟨ia, ic, oa, oc⟩ _ (hK.below BW.out) (h.frame (Same.below BW.out))).mono ?_
  rintro e w2 ⟨rfl, b2⟩
  have B2 := Lib.hid (below_both BW.out b2)
  have KC2 := Lib.hid (block_below b2 KC.out)
  have KZ2 := Lib.hid (block_below b2 KZ.out)
  have HZ2 : Hid (w.heap.size + 2 ≤ w2.heap.size) := (Array.getElem?_eq_some_iff.1 KZ2.out).1
  clear b2 h
  by_cases he : cdErr c = 0
  case neg =>
    have t0 : (cdErr c != 0) = true := by simpa using he
    have HRM : Hid (remC c = cd0) := by show _ = _; unfold remC; rw [if_neg he]
    clear he
    obtain ⟨y0, y1, y2, y3⟩ := cd_block4 KZ2.out
    have zf : ∀ i, w2.frozen? ⟨w.heap.size + 1, i, none⟩ = false := fun i => frozen_of_block KZ2.out
    go_wp2_with fail
    refine bodyPost_ret_block2 (cs := cellsC cd0 none 0 none 0) (w.heap.size + 1) (0, 0) _ rfl rfl rfl (four_set' KZ2.out _ _ _ _) Tryz.underlying25 rfl (by kernel_rfl) rfl ⟨⟨none, 0, none, 0⟩, by rw [HRM.out]; rfl, ?_, four_below B2.out (by omega) _ _ _ _⟩
    rw [HRM.out]
    exact ⟨Rd.nil _ _ _ _ _ (by decide), Rd.nil _ _ _ _ _ (by decide)⟩
  have t0 : (cdErr c != 0) = false := by simpa using he
  have HOK := Lib.hid (cd_ok he)
  have HRM : Hid (remC c = { c with ins := kp c 0 }) := by show _ = _; unfold remC; rw [if_pos he]; rfl
  have hlen := HOK.out.len
  have HER := Lib.hid he
  have BA := Lib.hid (below_alloc B2.out (.cells (cellsB fun _ => false) 66))
  have KCA := Lib.hid (block_alloc KC2.out (.cells (cellsB fun _ => false) 66))
  have KZA := Lib.hid (block_alloc KZ2.out (.cells (cellsB fun _ => false) 66))
  have KSA := Lib.hid (heap_alloc_new w2 (.cells (cellsB fun _ => false) 66))
  obtain ⟨z0, z1, z2, z3⟩ := cd_block4 KCA.out
  clear he
  go_wp2_with fail
  go_loopw [25] (fun i wr => ∃ k : Nat, k ≤ c.out.length ∧ i = .int .i64 k ∧ Hid (wr.heap[w2.heap.size]? = some (.cells (cellsB (withS (fun _ => false) (c.out.take k))) 66 (0, 0))) ∧ Hid (wr.heap[w.heap.size]? = some (.cells (cellsC c ia ic oa oc) 25 (0, 0))) ∧ Hid (wr.heap[w.heap.size + 1]? = some (.cells (cellsC cd0 none 0 none 0) 25 (0, 0))) ∧ Hid (Below w.heap.size w wr)) (fun i _ => c.out.length - (intOf i).toNat)
  case atStart => exact ⟨0, by omega, rfl, KSA.out, KCA.out, KZA.out, BA.out⟩
  case round =>
    clear z0 z1 z2 z3
    obtain ⟨k, hk9, rfl, KS3, KC3, KZ3, HB⟩ := hrel
    obtain ⟨z0, z1, z2, z3⟩ := cd_block4 KC3.out
    by_cases hlt : k < c.out.length
    · obtain ⟨b, o, rfl, -, -, hc⟩ := (HO.out.frame (Same.below HB.out)).vals (by omega) 0
      have d5 := hc k hlt
      rw [getD_at _ hlt] at d5
      have hr := HOK.out.out _ (List.getElem_mem hlt)
      have hr2 := HOK.out.r2
      have HT := Lib.hid (List.take_succ_eq_append_getElem hlt)
      clear hc
      generalize c.out[k] = r at *
      obtain ⟨hr0, hr1⟩ := hr
      obtain ⟨m, rfl⟩ := Int.eq_ofNat_of_zero_le hr0
      have hm8 : m < 8 := by omega
      have hm8' : (m : Int) < 8 := by omega
      clear hr1 hr2
      obtain ⟨e1, e2, e3⟩ := set_at KS3.out hm8
      have E3 := Lib.hid (e3 true)
      clear e3
      have hz := HZ2.out
      go_wp2_with fail
      go_roundw
      case rel =>
        refine ⟨k + 1, by omega, by go_num, ?_, ?_, ?_, ?_⟩
        · show _ = _
          rw [E3.out, updS_with, HT.out]
        · exact block_far KC3.out _ (by show w.heap.size ≠ w2.heap.size; omega)
        · exact block_far KZ3.out _ (by show w.heap.size + 1 ≠ w2.heap.size; omega)
        · exact HB.out.setCell (by show w.heap.size ≤ w2.heap.size; omega) _
      case measure => simp [intOf]; omega
    · have HS0 : Hid (withS (fun _ => false) (c.out.take k) = stateR c.out (kp c c.ins.length)) := by
        show _ = _
        rw [List.take_of_length_le (by omega)]
        unfold kp
        rw [List.drop_length]
        funext r
        simp [withS, keepR, stateR]
      rw [HS0.out] at KS3
      clear HS0
      have HG : Hid (w2.heap.size < wr.heap.size) := (Array.getElem?_eq_some_iff.1 KS3.out).1
      obtain ⟨w3, hw3⟩ : ∃ w3, w3 = wr := ⟨_, rfl⟩
      subst hw3
      go_wp2_with fail
      go_loopw [9, 10] (fun v i wr => ∃ k : Nat, k ≤ c.ins.length ∧ i = .int .i64 ((k : Int) - 1) ∧ Hid (Own kIn 50 NoS wr (w2.heap.size + 1) v (kp c k).reverse) ∧ Hid (wr.heap[w2.heap.size]? = some (.cells (cellsB (stateR c.out (kp c k))) 66 (0, 0))) ∧ Hid (wr.heap[w.heap.size]? = some (.cells (cellsC c ia ic oa oc) 25 (0, 0))) ∧ Hid (wr.heap[w.heap.size + 1]? = some (.cells (cellsC cd0 none 0 none 0) 25 (0, 0))) ∧ Hid (Below w.heap.size w wr)) (fun _ i _ => (intOf i + 1).toNat)
      case atStart =>
        refine ⟨c.ins.length, by omega, rfl, ?_, KS3.out, KC3.out, KZ3.out, HB.out⟩
        have : kp c c.ins.length = [] := by unfold kp; rw [List.drop_length]; rfl
        rw [this]
        exact Own.nil _ _ _ _ _
      case round =>
        clear z0 z1 z2 z3
        obtain ⟨k, hk9, rfl, HOw, KS4, KC4, KZ4, HB4⟩ := hrel
        obtain ⟨z0, z1, z2, z3⟩ := cd_block4 KC4.out
        by_cases hlt : 0 < k
        · obtain ⟨j, rfl⟩ : ∃ j, k = j + 1 := ⟨k - 1, by omega⟩
          have hj : j < c.ins.length := by omega
          rw [show ((j + 1 : Nat) : Int) - 1 = (j : Int) from by omega]
          obtain ⟨b, o, rfl, -, hbw0, hat0⟩ := in_elem HI.out hj
          have HAT0 := Lib.hid hat0
          obtain ⟨c0, c1, c2, c3, c4, c5⟩ := hat0.frame (w' := wr) (HB4.out.block b hbw0)
          have HX := Lib.hid (ins_ok (HOK.out.ins _ (List.getElem_mem hj)))
          have HKD := Lib.hid (keepR_drop c.out c.ins hj)
          have HL := Lib.hid (kp_len c (j + 1))
          have hr2 := HOK.out.r2
          clear hat0
          generalize c.ins[j] = x at *
          have HDX : Hid (defsI x = true → 0 ≤ x.dst ∧ x.dst < 8) := fun hd => by have := HX.out.2.1 hd; omega
          have HUX : Hid (∀ r ∈ usesI x, 0 ≤ r ∧ r < 8) := fun r hr => by have := HX.out.2.2 r hr; omega
          have CD := Lib.hid (fun W => live_dead (stateR c.out (kp c (j + 1))) x W HDX.out)
          have CB := Lib.hid (fun W hW => live_back (stateR c.out (kp c (j + 1))) x W hW HDX.out HUX.out)
          have HBK : Hid (stateR c.out (x :: kp c (j + 1)) = backS (stateR c.out (kp c (j + 1))) x) := rfl
          generalize hs1 : stateR c.out (kp c (j + 1)) = s1 at *
          have HS1 := Lib.hid hs1
          clear hs1
          obtain ⟨f0, f1, f2, f3, f4, f5, f6, f7⟩ := set_cells KS4.out
          have hj0 : (0 : Int) ≤ (j : Int) := by omega
          have hj1 : (j : Int) < (c.ins.length : Int) := by omega
          have B4d : Hid (Below w.heap.size w wr.drew) := below_drewN HB4.out 1
          have HGz : Hid (w2.heap.size < wr.heap.size) := (Array.getElem?_eq_some_iff.1 KS4.out).1
          go_wp2_with fail
          go_region_held3 (fun w' => w'.cell? ⟨w.heap.size, 2, none⟩ = some (.slice (some ⟨b, o, none⟩) c.ins.length ic) ∧ (w'.cell? ⟨w2.heap.size, 0, none⟩ = some (.bool (s1 0)) ∧ w'.cell? ⟨w2.heap.size, 1, none⟩ = some (.bool (s1 1)) ∧ w'.cell? ⟨w2.heap.size, 2, none⟩ = some (.bool (s1 2)) ∧ w'.cell? ⟨w2.heap.size, 3, none⟩ = some (.bool (s1 3)) ∧ w'.cell? ⟨w2.heap.size, 4, none⟩ = some (.bool (s1 4)) ∧ w'.cell? ⟨w2.heap.size, 5, none⟩ = some (.bool (s1 5)) ∧ w'.cell? ⟨w2.heap.size, 6, none⟩ = some (.bool (s1 6)) ∧ w'.cell? ⟨w2.heap.size, 7, none⟩ = some (.bool (s1 7))) ∧ w'.cell? ⟨b, o + j * 6, none⟩ = some (.int .i64 x.op) ∧ w'.cell? ⟨b, o + j * 6 + 1, none⟩ = some (.int .i64 x.dst) ∧ w'.cell? ⟨b, o + j * 6 + 2, none⟩ = some (.int .i64 x.a) ∧ w'.cell? ⟨b, o + j * 6 + 3, none⟩ = some (.int .i64 x.b) ∧ w'.cell? ⟨b, o + j * 6 + 4, none⟩ = some (.int .i64 x.c) ∧ w'.cell? ⟨b, o + j * 6 + 5, none⟩ = some (.int .u64 x.imm))
            (first | with_reducible exact ⟨y2, ⟨g0, g1, g2, g3, g4, g5, g6, g7⟩, d0, d1, d2, d3, d4, d5⟩ | exact ⟨z2, ⟨f0, f1, f2, f3, f4, f5, f6, f7⟩, c0, c1, c2, c3, c4, c5⟩)
            (first
            | (go_at_call 35
               refine (CD.out _).mono ?_
               rintro e w5 ⟨rfl, b5⟩
               have B5 := Lib.hid (below_both B4d.out b5)
               have KC5 := Lib.hid (block_below (below_both (below_drewN (Below.refl _ wr) 1) b5) KC4.out)
               have KZ5 := Lib.hid (block_below (below_both (below_drewN (Below.refl _ wr) 1) b5) KZ4.out)
               have KS5 := Lib.hid (block_below (below_both (below_drewN (Below.refl _ wr) 1) b5) KS4.out)
               have O5 := Lib.hid (HOw.out.below (below_both (below_drewN (Below.refl _ wr) 1) b5))
               obtain ⟨d0, d1, d2, d3, d4, d5⟩ := HAT0.out.frame (w' := w5) (B5.out.block b hbw0)
               obtain ⟨g0, g1, g2, g3, g4, g5, g6, g7⟩ := set_cells KS5.out
               obtain ⟨y0, y1, y2, y3⟩ := cd_block4 KC5.out
               clear b5)
            | fail)
          clear z0 z1 z2 z3 c0 c1 c2 c3 c4 c5 f0 f1 f2 f3 f4 f5 f6 f7
          cases hd : deadB s1 x
          · have HKE : Hid (kp c j = x :: kp c (j + 1)) := by show keepR c.out (c.ins.drop j) = _; rw [HKD.out, if_neg (by rw [hd]; exact Bool.false_ne_true)]
            clear hd
            have HLL : Hid ((kp c (j + 1)).reverse.length ≤ 256) := by show _ ≤ _; have := HL.out; rw [List.length_reverse]; omega
            have HZ5 : Hid (w2.heap.size + 1 ≤ w5.heap.size) := (Array.getElem?_eq_some_iff.1 KS5.out).1
            have hz2 := HZ2.out
            go_upto_region 16 with (first
              | (at_builtin; refine wpList_append_ev _ rfl _ _ 22 rfl _ _ rfl rfl _ (run_app1 w5 infoIn rfl _ O5.out 50 (inCells x) x rfl (by have := HLL.out; omega) (by have := HLL.out; omega) HZ5.out) ?_; rintro n6 w6 ⟨ow6, g6, -, _⟩; have B6 := Lib.hid (B5.out.grown g6 B5.out.size (fun k hk => by have := (O5.out.lt k hk).1; omega)); have KC6 := Lib.hid (block_grown g6 KC5.out (fun e => by have := (O5.out.lt _ e.symm).1; omega)); have KZ6 := Lib.hid (block_grown g6 KZ5.out (fun e => by have := (O5.out.lt _ e.symm).1; omega)); have KS6 := Lib.hid (block_grown g6 KS5.out (fun e => by have := (O5.out.lt _ e.symm).1; omega)); have O6 := Lib.hid ow6; clear ow6 g6)
              | fail)
            clear d0 d1 d2 d3 d4 d5 g0 g1 g2 g3 g4 g5 g6 g7 y0 y1 y2 y3
            obtain ⟨d0, d1, d2, d3, d4, d5⟩ := HAT0.out.frame (w' := w6) (B6.out.block b hbw0)
            obtain ⟨g0, g1, g2, g3, g4, g5, g6, g7⟩ := set_cells KS6.out
            obtain ⟨y0, y1, y2, y3⟩ := cd_block4 KC6.out
            have B6d : Hid (Below w.heap.size w w6.drew) := below_drewN B6.out 1
            have KC6d : Hid (w6.drew.heap[w.heap.size]? = _) := KC6.out
            have KZ6d : Hid (w6.drew.heap[w.heap.size + 1]? = _) := KZ6.out
            have KS6d : Hid (w6.drew.heap[w2.heap.size]? = _) := KS6.out
            have O6d := Lib.hid (O6.out.drewN 1)
            go_region_law
              (first
              | (go_simp; go_at_call 36
                 refine (CB.out _ (hK.below B6d.out)).mono ?_
                 rintro e w7 ⟨rfl, b7⟩
                 have B7 := Lib.hid (below_both B6d.out b7)
                 have KC7 := Lib.hid (block_below b7 KC6d.out)
                 have KZ7 := Lib.hid (block_below b7 KZ6d.out)
                 have KS7 := Lib.hid (block_below b7 KS6d.out)
                 have O7 := Lib.hid (O6d.out.below b7)
                 obtain ⟨q0, q1, q2, q3, q4, q5, q6, q7⟩ := set_cells KS7.out
                 have qf : ∀ i, w7.frozen? ⟨w2.heap.size, i, none⟩ = false := fun i => frozen_of_block KS7.out
                 clear b7)
              | fail)
            all_goals
              go_wp2_with fail
              go_roundw
              case rel =>
                refine ⟨j, by omega, by go_num, ?_, ?_, ?_, ?_, ?_⟩
                · show Own _ _ _ _ _ _ _
                  rw [HKE.out, List.reverse_cons]
                  exact O7.out.same (eight_same 0 (fun b hb => by rcases hb with hb | hb; (· exact hb.elim); (· have := (O7.out.lt b hb.symm).1; omega)) _)
                · show _ = _
                  rw [HKE.out, HBK.out]
                  exact set_eight KS7.out (backS s1 x)
                · exact (eight_far w7 w2.heap.size 0 _ _ (by omega)).trans KC7.out
                · exact (eight_far w7 w2.heap.size 0 _ _ (by omega)).trans KZ7.out
                · exact below_eight B7.out (by omega) _
              case measure => simp [intOf] <;> omega
          · have HKE : Hid (kp c j = kp c (j + 1)) := by show keepR c.out (c.ins.drop j) = _; rw [HKD.out, if_pos hd]
            clear hd
            go_wp2_with fail
            go_roundw
            case rel => exact ⟨j, by omega, by go_num, by rw [HKE.out]; exact O5.out, by rw [HKE.out, HS1.out]; exact KS5.out, KC5.out, KZ5.out, B5.out⟩
            case measure => simp [intOf] <;> omega
        · obtain rfl : k = 0 := by omega
          obtain ⟨a9, c9, hv9⟩ := HOw.out.form
          have HV9 := Lib.hid hv9
          clear hv9
          have HKL : Hid ((kp c 0).reverse.length = (kp c 0).length) := List.length_reverse
          have HL0 := Lib.hid (kp_len c 0)
          have HRM2 : Hid (remC c = { c with ins := kp c 0 }) := HRM.out
          rw [HV9.out] at HOw ⊢
          have R9 := Lib.hid ((Own.rd' HOw.out).lt)
          have CC := Lib.hid (isa_Copy S c ⟨ia, ic, oa, oc⟩ wr (HC.out.frame (Same.below HB4.out)) (by omega) (by omega))
          generalize kp c 0 = K at *
          generalize hR : K.reverse = R at *
          have HR := Lib.hid hR
          clear hR HV9
          have hRl : R.length ≤ 256 := by have := HKL.out; have := HL0.out; omega
          go_wp2_with fail
          refine CC.out.mono ?_
          rintro e w5 ⟨⟨ja, jc, qa, qc⟩, rfl, hc5, b5⟩
          have B5 := Lib.hid (below_both HB4.out b5)
          have KZ5 := Lib.hid (block_below b5 KZ4.out)
          have R5 := Lib.hid ((R9.out.frame (Same.below b5)).mono (S' := fun b => b < w5.heap.size) (fun b hb _ => hb))
          have HZ4 : Hid (w.heap.size + 1 < wr.heap.size) := (Array.getElem?_eq_some_iff.1 KZ4.out).1
          have O5 : Hid (Rd (Kd.int .i64) (fun b => w.heap.size + 1 < b ∧ b < w5.heap.size) w5 qa qc c.out) := hc5.out.mono (fun b h1 h2 => ⟨Nat.lt_of_lt_of_le HZ4.out h2, h1⟩)
          have KG6 := Lib.hid (heap_alloc_new w5 (.cells (cellsC c ja jc qa qc) 25))
          have B6 := Lib.hid (below_alloc B5.out (.cells (cellsC c ja jc qa qc) 25))
          have KZ6 := Lib.hid (block_alloc KZ5.out (.cells (cellsC c ja jc qa qc) 25))
          have R6 := Lib.hid (R5.out.frame (Same.alloc _ w5 (.cells (cellsC c ja jc qa qc) 25)))
          have O6 := Lib.hid (O5.out.frame (Same.alloc _ w5 (.cells (cellsC c ja jc qa qc) 25)))
          have HZ5 : Hid (w.heap.size + 1 < w5.heap.size) := (Array.getElem?_eq_some_iff.1 KZ5.out).1
          have HS6 : Hid (w5.heap.size + 1 ≤ (w5.alloc (.cells (cellsC c ja jc qa qc) 25)).heap.size) := by show _ ≤ _; simp
          clear b5 hc5 z0 z1 z2 z3
          go_upto_region 18 with fail
          generalize w5.alloc (.cells (cellsC c ja jc qa qc) 25) = W6 at *
          generalize w5.heap.size = g at *
          have kf6 : ∀ i, W6.frozen? ⟨g, i, none⟩ = false := fun i => frozen_of_block KG6.out
          go_wp2_with (first
            | ((with_reducible refine gate_m 22 (.const (.int .i64 0)) (.tmp 66) rfl ?_); refine wpList_make_ev _ rfl (.const (.int .i64 0)) (.tmp 66) 22 rfl _ _ rfl rfl _ (run_mkcap (d := kIn) W6 infoIn rfl NoS (base := g + 1) _ _ _ R.length rfl (by omega) (by omega) HS6.out) ?_; rintro v7 w7 ⟨o7, g7⟩; obtain ⟨a7, c7, rfl⟩ := o7.form; have O7w := Lib.hid o7; have B7 := Lib.hid (B6.out.grown g7 B6.out.size (fun k hk => by cases hk)); have KG7 := Lib.hid (block_grown g7 KG6.out (by simp)); have KZ7 := Lib.hid (block_grown g7 KZ6.out (by simp)); have R7 := Lib.hid (R6.out.frame (Same.grown g7 (fun b hb e => by cases e))); have O7 := Lib.hid (O6.out.frame (Same.grown g7 (fun b hb e => by cases e))); obtain ⟨q0, q1, q2, q3⟩ := cd_block4 KG7.out; have qf7 : ∀ i, w7.frozen? ⟨g, i, none⟩ = false := (fun i => frozen_of_block KG7.out); clear o7 g7)
            | fail)
          go_loopw [12] (fun i wr => ∃ (k : Nat) (va : Option Addr) (vc : Nat), k ≤ R.length ∧ i = .int .i64 ((k : Int) - 1) ∧ Hid (wr.heap[g]? = some (.cells #[.int .i64 c.width, .int .i64 c.regs, .slice va (K.take (R.length - k)).length vc, .slice qa c.out.length qc] 25 (0, 0))) ∧ Hid (Own kIn 50 NoS wr (g + 1) (.slice va (K.take (R.length - k)).length vc) (K.take (R.length - k))) ∧ Hid (Rd kIn (fun b => b < g) wr a9 c9 R) ∧ Hid (Rd (Kd.int .i64) (fun b => w.heap.size + 1 < b ∧ b < g) wr qa qc c.out) ∧ Hid (wr.heap[w.heap.size + 1]? = some (.cells (cellsC cd0 none 0 none 0) 25 (0, 0))) ∧ Hid (Below w.heap.size w wr)) (fun i _ => (intOf i + 1).toNat)
          case atStart =>
            have hg : w.heap.size + 1 < g := HZ5.out
            refine ⟨R.length, a7, c7, by omega, rfl, ?_, ?_, ?_, ?_, ?_, ?_⟩
            · have h7 := KG7.out
              show _ = _
              rw [Nat.sub_self, List.take_zero]
              simp [World.setCell, Array.getElem?_modify, h7]
            · show Own _ _ _ _ _ _ _
              rw [Nat.sub_self, List.take_zero]
              exact O7w.out.same (Same.setCell w7 _ (fun b hb => by rcases hb with hb | hb; (· exact hb.elim); (· have := (O7w.out.lt b hb.symm).1; show b ≠ g; omega)))
            · exact R7.out.frame (Same.setCell w7 _ (fun b hb => by have : b < g := hb; show b ≠ g; omega))
            · exact O7.out.frame (Same.setCell w7 _ (fun b hb => by have := hb.2; show b ≠ g; omega))
            · exact block_far KZ7.out _ (by show w.heap.size + 1 ≠ g; omega)
            · exact B7.out.setCell (by show w.heap.size ≤ g; omega) _
          case round =>
            clear q0 q1 q2 q3
            obtain ⟨k, va, vc, hk, rfl, KG8, OW8, R8, O8, KZ8, B8⟩ := hrel
            have hg : w.heap.size + 1 < g := HZ5.out
            obtain ⟨q0, q1, q2, q3⟩ := cd_block4 KG8.out
            have qf8 : ∀ i, wr.frozen? ⟨g, i, none⟩ = false := fun i => frozen_of_block KG8.out
            by_cases hlt : 0 < k
            · obtain ⟨j, rfl⟩ : ∃ j, k = j + 1 := ⟨k - 1, by omega⟩
              have hj : j < R.length := by omega
              rw [show ((j + 1 : Nat) : Int) - 1 = (j : Int) from by omega]
              obtain ⟨b, o, rfl, hbg, hbw, hat⟩ := in_elem R8.out hj
              have HAT := Lib.hid hat
              obtain ⟨c0, c1, c2, c3, c4, c5⟩ := hat
              have HKJ : Hid (K.take (R.length - j) = K.take (R.length - (j + 1)) ++ [R[j]]) := by
                show _ = _
                have hKl : K.length = R.length := HKL.out.symm
                have e : R[j] = K[R.length - (j + 1)]'(by omega) := by
                  have := HR.out
                  subst this
                  rw [List.getElem_reverse]
                  congr 1
                  simp at hKl ⊢
                  omega
                rw [e, show R.length - j = R.length - (j + 1) + 1 by omega, List.take_succ_eq_append_getElem]
              have hHL : (K.take (R.length - (j + 1))).length ≤ 256 := by rw [List.length_take]; omega
              have HZ8 : Hid (g + 1 ≤ wr.heap.size) := (Array.getElem?_eq_some_iff.1 KG8.out).1
              generalize R[j] = x at *
              generalize K.take (R.length - (j + 1)) = X at *
              have hj0 : (0 : Int) ≤ (j : Int) := by omega
              have hj1 : (j : Int) < (R.length : Int) := by omega
              have hrow : ∀ k, (Value.slice va X.length vc).ownBlock = some k → g + 1 ≤ k := fun k hk => (OW8.out.lt k hk).1
              have HROW := Lib.hid hrow
              have hxl : (X ++ [x]).length = X.length + 1 := by simp
              have HXL := Lib.hid hxl
              clear hrow hxl
              have u2 : ∀ ob, (wr.alloc ob).cell? ⟨g, 2, none⟩ = some (.slice va X.length vc) := fun ob => (World.cell?_of_block (Below.heap_alloc wr ob g HZ8.out)).trans q2
              have uf : ∀ ob i, (wr.alloc ob).frozen? ⟨g, i, none⟩ = false := fun ob i => frozen_of_block (block_alloc KG8.out ob)
              go_wp2_with fail
              go_region_law
                (first
                | ((with_reducible refine gate_s (.tmp 77) (.tmp 82) rfl ?_)
                   refine step_append_ev _ rfl (.tmp 77) (.tmp 82) 22 rfl _ _ rfl rfl _ (run_app1 wr.drew infoIn rfl _ (OW8.out.drewN 1) 50 (inCells x) x rfl (by omega) (by omega) HZ8.out) ?_
                   rintro n6 w6 ⟨ow6, g6, v6, an, cn, rfl⟩
                   have O6w := Lib.hid ow6
                   have G6w := Lib.hid g6
                   have KG9 := Lib.hid (block_grown g6 (w := wr.drew) KG8.out (fun e => by have := (OW8.out.lt _ e.symm).1; omega))
                   have kf9 : ∀ i, w6.frozen? ⟨g, i, none⟩ = false := fun i => frozen_of_block KG9.out
                   obtain ⟨r0, r1, r2, r3⟩ := cd_block4 KG9.out
                   clear ow6 g6 v6)
                | fail)
              all_goals
                go_wp2_with fail
                go_roundw
                case rel =>
                  refine ⟨j, an, cn, by omega, by go_num, ?_, ?_, ?_, ?_, ?_, ?_⟩
                  · have h9 := KG9.out
                    show _ = _
                    rw [HKJ.out, HXL.out]
                    simp [World.setCell, Array.getElem?_modify, h9]
                  · show Own _ _ _ _ _ _ _
                    rw [HKJ.out, HXL.out]
                    exact O6w.out.same (Same.setCell w6 _ (fun b hb => by rcases hb with hb | hb; (· exact hb.elim); (· have := (O6w.out.lt b hb.symm).1; show b ≠ g; omega)))
                  · exact ((R8.out.frame (Same.drewN _ wr 1)).frame (Same.grown G6w.out (fun b hb e => by have : b < g := hb; have := HROW.out b e.symm; omega))).frame (Same.setCell w6 _ (fun b hb => by have : b < g := hb; show b ≠ g; omega))
                  · exact ((O8.out.frame (Same.drewN _ wr 1)).frame (Same.grown G6w.out (fun b hb e => by have := hb.2; have := HROW.out b e.symm; omega))).frame (Same.setCell w6 _ (fun b hb => by have := hb.2; show b ≠ g; omega))
                  · exact block_far (block_grown G6w.out (w := wr.drew) KZ8.out (fun e => by have := HROW.out _ e.symm; omega)) _ (by show w.heap.size + 1 ≠ g; omega)
                  · exact ((below_drewN B8.out 1).grown G6w.out B8.out.size (fun k hk => by have := HROW.out k hk; omega)).setCell (by show w.heap.size ≤ g; omega) _
                case measure => simp [intOf] <;> omega
            · obtain rfl : k = 0 := by omega
              have HX : Hid (K.take (R.length - 0) = K) := by show _ = _; have := HKL.out; rw [List.take_of_length_le (by omega)]
              rw [HX.out] at KG8 OW8
              clear HX q0 q1 q2 q3
              obtain ⟨q0, q1, q2, q3⟩ := cd_block4 KG8.out
              obtain ⟨y0, y1, y2, y3⟩ := cd_block4 KZ8.out
              have yf : ∀ i, wr.frozen? ⟨w.heap.size + 1, i, none⟩ = false := fun i => frozen_of_block KZ8.out
              go_wp2_with fail
              refine bodyPost_ret_block2 (cs := cellsC { c with ins := K } va vc qa qc) (w.heap.size + 1) (0, 0) _ rfl rfl rfl (four_set' KZ8.out _ _ _ _) Tryz.underlying25 rfl (by kernel_rfl) rfl ⟨⟨va, vc, qa, qc⟩, ret_cd HRM2.out.symm HER.out.symm, ?_, four_below B8.out (by omega) _ _ _ _⟩
              rw [HRM2.out]
              refine ⟨?_, ?_⟩
              · have r := (Own.rd' OW8.out).mono (S' := fun b => g < b) (fun b _ hb => by rcases hb with hb | hb; (· exact hb.elim); (· exact hb))
                exact (r.frame (four_same (fun b hb => by have : g < b := hb; omega) _ _ _ _)).mono (fun _ _ _ => trivial)
              · exact (O8.out.frame (four_same (fun b hb => by have := hb.1; omega) _ _ _ _)).mono (fun _ _ _ => trivial)
end Go.Proofs.Sat
