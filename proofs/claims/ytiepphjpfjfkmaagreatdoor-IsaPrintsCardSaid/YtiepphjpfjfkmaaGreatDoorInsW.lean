/- Instructions and programs of the machine as data: what their cells say; what is told of their form. No program stands in it. -/
import Derived.Test.YtiepphjpfjfkmaaGreatDoorOps2
set_option linter.unusedVariables false
set_option linter.unusedSimpArgs false
namespace Go.Proofs.Sat
open Go Go.RowKit
structure In where
  op : Int
  dst : Int
  a : Int
  b : Int
  c : Int
  imm : Int
deriving DecidableEq
abbrev inCells (x : In) : List Value := [.int .i64 x.op, .int .i64 x.dst, .int .i64 x.a, .int .i64 x.b, .int .i64 x.c, .int .u64 x.imm]
abbrev inVal (x : In) : Value := .agg #[.int .i64 x.op, .int .i64 x.dst, .int .i64 x.a, .int .i64 x.b, .int .i64 x.c, .int .u64 x.imm]
/-- An instruction's six cells. -/
def kIn : Kd In := Kd.flat inCells 6 (fun _ => rfl) (fun x u hu => by
  simp [inCells] at hu
  rcases hu with rfl | rfl | rfl | rfl | rfl | rfl <;> rfl)
/-- An instruction's cells at a place. -/
structure InAt (w : World) (b o : Nat) (x : In) : Prop where
  c0 : w.cell? ⟨b, o, none⟩ = some (.int .i64 x.op)
  c1 : w.cell? ⟨b, o + 1, none⟩ = some (.int .i64 x.dst)
  c2 : w.cell? ⟨b, o + 2, none⟩ = some (.int .i64 x.a)
  c3 : w.cell? ⟨b, o + 3, none⟩ = some (.int .i64 x.b)
  c4 : w.cell? ⟨b, o + 4, none⟩ = some (.int .i64 x.c)
  c5 : w.cell? ⟨b, o + 5, none⟩ = some (.int .u64 x.imm)
theorem InAt.frame {w w' : World} {b o : Nat} {x : In} (h : InAt w b o x) (hb : w'.heap[b]? = w.heap[b]?) : InAt w' b o x := by
  have e : ∀ i, w'.cell? ⟨b, i, none⟩ = w.cell? ⟨b, i, none⟩ := fun i => World.cell?_of_block hb
  exact ⟨(e _).trans h.c0, (e _).trans h.c1, (e _).trans h.c2, (e _).trans h.c3, (e _).trans h.c4, (e _).trans h.c5⟩
/-- An element of a row of instructions. -/
theorem in_elem {S : Nat → Prop} {w : World} {a : Option Addr} {c : Nat} {l : List In} (h : Rd kIn S w a c l) {j : Nat} (hj : j < l.length) : ∃ b o, a = some ⟨b, o, none⟩ ∧ S b ∧ b < w.heap.size ∧ InAt w b (o + j * 6) l[j] := by
  obtain ⟨b, o, cs, rfl, hs, hb, hk, hc⟩ := h.elem hj
  have hk' : cs = inCells l[j] := hk
  subst hk'
  exact ⟨b, o, rfl, hs, hb, ⟨hc 0 _ rfl, hc 1 _ rfl, hc 2 _ rfl, hc 3 _ rfl, hc 4 _ rfl, hc 5 _ rfl⟩⟩
/-- A program. -/
structure Cd where
  width : Int
  regs : Int
  ins : List In
  out : List Int
deriving DecidableEq
structure CdAt where
  ia : Option Addr
  ic : Nat
  oa : Option Addr
  oc : Nat
structure CdRd (S : Nat → Prop) (w : World) (x : Cd) (p : CdAt) : Prop where
  ins : Rd kIn S w p.ia p.ic x.ins
  out : Rd (Kd.int .i64) S w p.oa p.oc x.out
theorem CdRd.frame {S : Nat → Prop} {w w' : World} {x : Cd} {p : CdAt} (hs : Same S w w') (h : CdRd S w x p) : CdRd S w' x p := ⟨h.ins.frame hs, h.out.frame hs⟩
theorem CdRd.mono {S S' : Nat → Prop} {w : World} {x : Cd} {p : CdAt} (hS : ∀ b, b < w.heap.size → S b → S' b) (h : CdRd S w x p) : CdRd S' w x p := ⟨h.ins.mono hS, h.out.mono hS⟩
abbrev cdVal (x : Cd) (p : CdAt) : Value := .agg #[.int .i64 x.width, .int .i64 x.regs, .slice p.ia x.ins.length p.ic, .slice p.oa x.out.length p.oc]
/-! ### What is told of the form -/
/-- The number of sources; -1 for other numbers. -/
def srcN (op : Int) : Int := if op < 0 ∨ 19 < op then -1 else if op ≤ 1 then 0 else if op ≤ 4 then 1 else if op = 19 then 3 else 2
/-- The source registers. -/
def usesI (x : In) : List Int := [x.a, x.b, x.c].take (srcN x.op).toNat
def knownI (op : Int) : Bool := decide (0 ≤ op ∧ op ≤ 19)
/-- Does it define a register? -/
def defsI (x : In) : Bool := decide (1 ≤ x.op ∧ x.op ≤ 19)
def inR (n regs : Int) : Bool := decide (0 ≤ n ∧ n < regs)
/-- 2^w - 1, w from 1 to 64. -/
def maskI (w : Int) : Int := 2 ^ w.toNat - 1
/-- The error of an instruction. -/
def insErr (width regs : Int) (x : In) : Int :=
  if knownI x.op = false then 4
  else if defsI x = true ∧ inR x.dst regs = false then 18
  else if (usesI x).all (fun r => inR r regs) = false then 18
  else if x.op = 1 ∧ maskI width < x.imm then 2
  else if (x.op ≠ 1 ∧ x.imm ≠ 0) ∨ (x.op = 0 ∧ x.dst ≠ 0) ∨ ([x.a, x.b, x.c].drop (srcN x.op).toNat).all (fun r => r == 0) = false then 19
  else 0
/-- The first error of instructions. -/
def insErrs (width regs : Int) : List In → Int
  | [] => 0
  | x :: l => if insErr width regs x = 0 then insErrs width regs l else insErr width regs x
/-- The error of a program. -/
def cdErr (c : Cd) : Int :=
  if ¬ (1 ≤ c.width ∧ c.width ≤ 64) then 3
  else if ¬ (1 ≤ c.regs ∧ c.regs ≤ 8) then 18
  else if 256 < c.ins.length then 7
  else if insErrs c.width c.regs c.ins ≠ 0 then insErrs c.width c.regs c.ins
  else if c.out.all (fun r => inR r c.regs) = false then 18
  else if ¬ c.out.Nodup then 9
  else 0
theorem insErrs_zero {width regs : Int} : ∀ {l : List In}, insErrs width regs l = 0 ↔ ∀ x ∈ l, insErr width regs x = 0
  | [] => by simp [insErrs]
  | x :: l => by
    unfold insErrs
    by_cases h : insErr width regs x = 0
    · rw [if_pos h, insErrs_zero]
      simp [h]
    · rw [if_neg h]
      simp [h]
theorem insErrs_at {width regs : Int} : ∀ {l : List In} {k : Nat} (hk : k < l.length), (∀ j (hj : j < l.length), j < k → insErr width regs l[j] = 0) → insErr width regs l[k] ≠ 0 → insErrs width regs l = insErr width regs l[k]
  | x :: l, 0, _, _, h => by
    have h' : insErr width regs x ≠ 0 := h
    unfold insErrs
    rw [if_neg h']
    rfl
  | x :: l, k + 1, hk, hb, h => by
    have h0 : insErr width regs x = 0 := hb 0 (by simp) (by omega)
    unfold insErrs
    rw [if_pos h0]
    exact insErrs_at (by simpa using hk) (fun j hj hjk => hb (j + 1) (by simp; omega) (by omega)) h
theorem usesI_length (x : In) : (usesI x).length ≤ 3 := by unfold usesI; rw [List.length_take]; simp; omega
theorem srcN_le (op : Int) : -1 ≤ srcN op ∧ srcN op ≤ 3 := by unfold srcN; repeat (first | split | omega)
theorem srcN_known {op : Int} (h : knownI op = true) : 0 ≤ srcN op := by
  unfold knownI at h
  rw [decide_eq_true_eq] at h
  unfold srcN
  repeat (first | split | omega)
end Go.Proofs.Sat
