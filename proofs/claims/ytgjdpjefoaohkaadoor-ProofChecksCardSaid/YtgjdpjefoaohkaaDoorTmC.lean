/- The walk of term.Copy. -/
import Derived.Test.YtgjdpjefoaohkaaDoorTmR
import Derived.Deep.RegionLaw
set_option linter.unusedVariables false
set_option linter.unusedSimpArgs false
namespace Go.Proofs.Sat
open Go Go.RowKit
theorem infoTm : ElemInfo Tryd.prog 32 34 (.agg #[.int .i64 0, .int .i64 0, .int .u64 0, .string ⟨#[]⟩, .slice none 0 0]) 5 64 := ⟨Tryd.underlying32, by kernel_rfl, rfl, by decide⟩
theorem block_at1 (w : World) (o1 o2 : Obj) : ((w.alloc o1).alloc o2).heap[w.heap.size + 1]? = some o2 := by
  have := heap_alloc_new (w.alloc o1) o2
  simpa using this
theorem block_at2 (w : World) (o1 o2 o3 : Obj) : (((w.alloc o1).alloc o2).alloc o3).heap[w.heap.size + 1 + 1]? = some o3 := by
  have := heap_alloc_new ((w.alloc o1).alloc o2) o3
  simpa using this
set_option maxHeartbeats 400000 in
theorem term_Copy : ∀ (m : Nat) (x : Tm), SizeOf.sizeOf x ≤ m → Few 60 x → ∀ (S : Nat → Prop) (a : Option Addr) (c : Nat) (w : World), Rd kT S w a c x.args →
    Calls Tryd.prog 52 #[tmVal x a c] w fun e w' => ∃ a' c', e = .returned (tmVal x a' c') ∧ Rd kT (fun b => w.heap.size ≤ b) w' a' c' x.args ∧ Below w.heap.size w w' := by
  intro m
  induction m with
  | zero => intro x hx; exact absurd hx (by have : 0 < SizeOf.sizeOf x := by cases x; simp; omega
                                            omega)
  | succ m ih =>
    intro x hx hf S a c w h
    have hlen := hf.len
    unfold tmVal
    go_enter Tryd.func52, Tryd.ntmps52
    go_wp2
    have B0 := Lib.hid ((((Below.refl w.heap.size w).alloc (Nat.le_refl _) (.cells #[.int .i64 x.op, .int .i64 x.width, .int .u64 x.val, .string x.name, .slice a x.args.length c] 34)).alloc (by simp) (.cells #[.int .i64 0, .int .i64 0, .int .u64 0, .string ⟨#[]⟩, .slice none 0 0] 34)).alloc (by simp; omega) (.cells #[.int .i64 x.op, .int .i64 x.width, .int .u64 x.val, .string x.name, .slice none 0 0] 34))
    go_loopw [11] (fun i wr => ∃ (k : Nat) (v : Value), k ≤ x.args.length ∧ i = .int .i64 k ∧ Hid (Own kT 34 (fun b => w.heap.size + 3 ≤ b) wr (w.heap.size + 3) v (x.args.take k)) ∧ Hid (Below w.heap.size w wr) ∧ w.heap.size + 3 ≤ wr.heap.size ∧
      wr.heap[w.heap.size + 1]? = some (.cells #[.int .i64 0, .int .i64 0, .int .u64 0, .string ⟨#[]⟩, .slice none 0 0] 34 (0, 0)) ∧ wr.heap[w.heap.size + 1 + 1]? = some (.cells #[.int .i64 x.op, .int .i64 x.width, .int .u64 x.val, .string x.name, v] 34 (0, 0))) (fun i _ => x.args.length - (intOf i).toNat)
    case atStart => exact ⟨0, .slice none 0 0, by omega, rfl, Own.nil _ _ _ _ _, B0.out, by simp, block_alloc (block_at1 w _ _) _, block_at2 w _ _ _⟩
    case round =>
      obtain ⟨k, v, hk, rfl, HO, HB, hz, hR, hO⟩ := hrel
      obtain ⟨av, cv, hv⟩ := HO.out.form
      rw [List.length_take, Nat.min_eq_left hk] at hv
      subst hv
      have HR := Lib.hid hR
      have HOB := Lib.hid hO
      by_cases hlt : k < x.args.length
      · have cO : wr.cell? ⟨w.heap.size + 1 + 1, 4, none⟩ = some (.slice av k cv) := by simp [World.cell?, hO]
        obtain ⟨b, o, a', c', rfl, hb, hr, ⟨e0, e1, e2, e3, e4⟩⟩ := tm_elem (h.frame (Same.below HB.out)) hlt
        have IH := Lib.hid (ih x.args[k] (by have := x.arg_lt (List.getElem_mem hlt); omega) (hf.arg (List.getElem_mem hlt)))
        have hr' := Lib.hid hr
        clear hR hO hr
        generalize hy : x.args[k] = y at *
        have HY := Lib.hid hy
        clear hy
        go_wp2_with fail
        have FH : Hid (Five (wr.alloc (.cells #[.int .i64 y.op, .int .i64 y.width, .int .u64 y.val, .string y.name, .slice a' y.args.length c'] 34)) wr.heap.size 0 y a' c') := by
          have := heap_alloc_new wr (.cells #[.int .i64 y.op, .int .i64 y.width, .int .u64 y.val, .string y.name, .slice a' y.args.length c'] 34)
          exact ⟨(cell_of_row _ _ 0 _ _ (0, 0) this).trans rfl, (cell_of_row _ _ 1 _ _ (0, 0) this).trans rfl, (cell_of_row _ _ 2 _ _ (0, 0) this).trans rfl, (cell_of_row _ _ 3 _ _ (0, 0) this).trans rfl, (cell_of_row _ _ 4 _ _ (0, 0) this).trans rfl⟩
        have S0 := Lib.hid (Same.alloc (fun _ => True) wr (.cells #[.int .i64 y.op, .int .i64 y.width, .int .u64 y.val, .string y.name, .slice a' y.args.length c'] 34))
        have cO0 : (wr.alloc (.cells #[.int .i64 y.op, .int .i64 y.width, .int .u64 y.val, .string y.name, .slice a' y.args.length c'] 34)).cell? ⟨w.heap.size + 1 + 1, 4, none⟩ = some (.slice av k cv) := (World.cell?_of_block (S0.out.2 (w.heap.size + 1 + 1) trivial (by omega))).trans cO
        have z0 : wr.heap.size < (wr.alloc (.cells #[.int .i64 y.op, .int .i64 y.width, .int .u64 y.val, .string y.name, .slice a' y.args.length c'] 34)).heap.size := by simp
        have BW0 := Lib.hid (below_alloc HB.out (.cells #[.int .i64 y.op, .int .i64 y.width, .int .u64 y.val, .string y.name, .slice a' y.args.length c'] 34))
        clear cO e0 e1 e2 e3 e4
        generalize wr.alloc (.cells #[.int .i64 y.op, .int .i64 y.width, .int .u64 y.val, .string y.name, .slice a' y.args.length c'] 34) = W0 at *
        obtain ⟨d0, d1, d2, d3, d4⟩ := FH.out
        go_region_law
          (first
          | (go_simp; go_at_call 52; refine (IH.out S a' c' (W0.drewN 1) (by exact (hr'.out.frame (S0.out.mono fun _ _ => trivial)).frame (Same.drewN _ _ _))).mono ?_; rintro e w1 ⟨a3, c3, rfl, r3, b3⟩
             have B3 := Lib.hid (below_both (below_drewN (Below.refl W0.heap.size W0) 1) b3)
             have FH1 := Lib.hid (FH.out.frame (B3.out.block _ z0))
             have z1 : Hid (wr.heap.size < w1.heap.size) := Nat.lt_of_lt_of_le z0 B3.out.size
             have cO1 : w1.cell? ⟨w.heap.size + 1 + 1, 4, none⟩ = some (.slice av k cv) := (World.cell?_of_block (B3.out.block (w.heap.size + 1 + 1) (by omega))).trans cO0
             have cO1a : ∀ ob : Obj, (w1.alloc ob).cell? ⟨w.heap.size + 1 + 1, 4, none⟩ = some (.slice av k cv) := fun ob => (World.cell?_of_block (Below.heap_alloc w1 ob (w.heap.size + 1 + 1) (Nat.lt_of_lt_of_le (show w.heap.size + 1 + 1 < W0.heap.size by omega) B3.out.size))).trans cO1
             have fO1 : w1.frozen? ⟨w.heap.size + 1 + 1, 4, none⟩ = false := frozen_of_block (block_below B3.out ((S0.out.2 (w.heap.size + 1 + 1) trivial (by omega)).trans HOB.out))
             have O1 := Lib.hid ((HO.out.same (S0.out.mono fun _ _ => trivial)).below B3.out)
             have K1 : Hid (kT.K (fun b => w.heap.size + 3 ≤ b ∧ some b ≠ (Value.slice av k cv).ownBlock) w1 (tmCells y a3 c3) y) := kT_mk (r3.mono fun b _ hs => ⟨by have : W0.heap.size ≤ b := hs; omega, fun e => by have := (HO.out.lt b e.symm).2; have : W0.heap.size ≤ b := hs; omega⟩)
             clear r3 b3)
          | ((with_reducible refine gate_s (.tmp 16) (.tmp 19) rfl ?_); refine step_append_ev _ rfl (.tmp 16) (.tmp 19) 32 rfl _ _ rfl rfl _ (run_app1 w1 infoTm rfl _ O1.out 34 (tmCells y a3 c3) y K1.out (by simp; omega) (by simp; omega) (by have := z1.out; omega)) ?_; rintro n2 w2 ⟨ow2, g2, v2, ac, cc, rfl⟩
             have O2 : Hid (Own kT 34 (fun b => w.heap.size + 3 ≤ b) w2 (w.heap.size + 3) (.slice ac (k + 1) cc) (x.args.take k ++ [y])) := by have ht := ow2; rw [List.length_take, Nat.min_eq_left hk] at ht; exact ht
             have FH3 := Lib.hid (FH1.out.frame (g2.block _ z1.out (fun e => by have := (HO.out.lt _ e.symm).2; omega)))
             have hOB2 := block_grown g2 (block_below B3.out ((S0.out.2 (w.heap.size + 1 + 1) trivial (by omega)).trans HOB.out)) (fun e => by have := (HO.out.lt _ e.symm).1; omega)
             have HR2 := Lib.hid (block_grown g2 (block_below B3.out ((S0.out.2 (w.heap.size + 1) trivial (by omega)).trans HR.out)) (fun e => by have := (HO.out.lt _ e.symm).1; omega))
             have cO2 : w2.cell? ⟨w.heap.size + 1 + 1, 4, none⟩ = some (.slice av k cv) := (cell_of_row _ _ 4 _ _ (0, 0) hOB2).trans rfl
             have fO2 : w2.frozen? ⟨w.heap.size + 1 + 1, 4, none⟩ = false := frozen_of_block hOB2
             have OB2 := Lib.hid hOB2
             have B2 := Lib.hid ((below_both BW0.out B3.out).grown g2 (below_both BW0.out B3.out).size (fun k hk => by have := (HO.out.lt k hk).1; omega))
             have z2 : Hid (w.heap.size + 3 ≤ w2.heap.size) := Nat.le_trans (show w.heap.size + 3 ≤ w1.heap.size from by have := z1.out; omega) g2.size
             clear ow2 g2 v2 hOB2)
          | fail)
        all_goals
          go_wp2
          go_roundw
          case rel =>
            have hs := Same.setCell (S := fun b => w.heap.size + 3 ≤ b ∨ some b = (Value.slice ac (k + 1) cc).ownBlock) w2 (p := ⟨w.heap.size + 1 + 1, 4, none⟩) (.slice ac (k + 1) cc) (fun b hb => by
              show b ≠ w.heap.size + 1 + 1
              rcases hb with hb | hb
              · omega
              · have := (O2.out.lt b hb.symm).1; omega)
            refine ⟨k + 1, .slice ac (k + 1) cc, by omega, by go_num, ?_, B2.out.setCell (by show w.heap.size ≤ w.heap.size + 1 + 1; omega) _, Nat.le_trans z2.out hs.1, block_far HR2.out _ (by show w.heap.size + 1 ≠ w.heap.size + 1 + 1; omega), ?_⟩
            · show Own _ _ _ _ _ _ _
              rw [List.take_succ_eq_append_getElem hlt, HY.out]
              exact O2.out.same hs
            · simp [World.setCell, Array.getElem?_modify, OB2.out]
          case measure => simp [intOf]; omega
      · have cO : wr.cell? ⟨w.heap.size + 1 + 1, 4, none⟩ = some (.slice av k cv) := by simp [World.cell?, hO]
        have r0 : wr.cell? ⟨w.heap.size + 1, 0, none⟩ = some (.int .i64 0) := by simp [World.cell?, hR]
        have r1 : wr.cell? ⟨w.heap.size + 1, 1, none⟩ = some (.int .i64 0) := by simp [World.cell?, hR]
        have r2 : wr.cell? ⟨w.heap.size + 1, 2, none⟩ = some (.int .u64 0) := by simp [World.cell?, hR]
        have r3 : wr.cell? ⟨w.heap.size + 1, 3, none⟩ = some (.string ⟨#[]⟩) := by simp [World.cell?, hR]
        have r4 : wr.cell? ⟨w.heap.size + 1, 4, none⟩ = some (.slice none 0 0) := by simp [World.cell?, hR]
        have f0 : ∀ i, wr.frozen? ⟨w.heap.size + 1, i, none⟩ = false := fun i => frozen_of_block hR
        clear hR
        have c0 : wr.cell? ⟨w.heap.size + 1 + 1, 0, none⟩ = some (.int .i64 x.op) := by simp [World.cell?, hO]
        have c1 : wr.cell? ⟨w.heap.size + 1 + 1, 1, none⟩ = some (.int .i64 x.width) := by simp [World.cell?, hO]
        have c2 : wr.cell? ⟨w.heap.size + 1 + 1, 2, none⟩ = some (.int .u64 x.val) := by simp [World.cell?, hO]
        have c3 : wr.cell? ⟨w.heap.size + 1 + 1, 3, none⟩ = some (.string x.name) := by simp [World.cell?, hO]
        clear hO
        have hk' : k = x.args.length := by omega
        subst hk'
        have HO' := Lib.hid (show Own kT 34 (fun b => w.heap.size + 3 ≤ b) wr (w.heap.size + 3) (.slice av x.args.length cv) x.args by have := HO.out; rwa [List.take_length] at this)
        clear HO
        go_wp2
        try simp only [Exit.then, Exit.inBlock]
        have hs : ∀ (wz : World) (i : Nat) (u : Value), Own kT 34 (fun b => w.heap.size + 3 ≤ b) wz (w.heap.size + 3) (.slice av x.args.length cv) x.args → Own kT 34 (fun b => w.heap.size + 3 ≤ b) (wz.setCell ⟨w.heap.size + 1, i, none⟩ u) (w.heap.size + 3) (.slice av x.args.length cv) x.args := fun wz i u ho => ho.same (Same.setCell wz u fun b hb => by
          show b ≠ w.heap.size + 1
          rcases hb with hb | hb
          · omega
          · have := (ho.lt b hb.symm).1; omega)
        have hb : ∀ (wz : World) (i : Nat) (u : Value), Below w.heap.size w wz → Below w.heap.size w (wz.setCell ⟨w.heap.size + 1, i, none⟩ u) := fun wz i u h => h.setCell (by show w.heap.size ≤ w.heap.size + 1; omega) u
        refine bodyPost_ret_block (cs := #[.int .i64 x.op, .int .i64 x.width, .int .u64 x.val, .string x.name, .slice av x.args.length cv]) (t0 := 34) (w.heap.size + 1) (0, 0) _ rfl rfl (by simp [World.setCell, Array.getElem?_modify, HR.out]) Tryd.underlying34 rfl (by kernel_rfl) rfl ?_
        obtain ⟨a9, c9, e9, r9⟩ := (hs _ _ _ (hs _ _ _ (hs _ _ _ (hs _ _ _ (hs _ _ _ HO'.out))))).rd
        cases e9
        exact ⟨_, _, rfl, r9.mono (fun b _ hb => by rcases hb with hb | hb <;> (show w.heap.size ≤ b; omega)), hb _ _ _ (hb _ _ _ (hb _ _ _ (hb _ _ _ (hb _ _ _ HB.out))))⟩
end Go.Proofs.Sat
