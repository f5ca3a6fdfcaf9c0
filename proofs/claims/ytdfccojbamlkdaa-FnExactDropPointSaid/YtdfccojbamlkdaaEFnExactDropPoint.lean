/- Kinds, signatures and loops of the functions that the laws reach, and what each computes. -/
import Derived.Test.YtdfccojbamlkdaaRfD
import Derived.Test.YtdfccojbamlkdaaProg
import Derived.KernelRfl
set_option linter.unusedVariables false
namespace Go.Proofs.Ytdfccojbamlkdaa.R
open Go.Rf Go.Proofs
def tyNode : Ty := (.pair (.int .i64) (.int .u64))
abbrev DNode := Int × Int
def tySpan : Ty := (.pair (.int .u64) (.int .u64))
abbrev DSpan := Int × Int
def tySight : Ty := (.one (.sl (.int .i64)))
abbrev DSight := Bool × List Int
def tyboundsError : Ty := (.pair (.int .i64) (.pair (.int .i64) (.pair .bool (.int .u8))))
abbrev DboundsError := Int × Int × Bool × Int
def tyProof : Ty := (.pair (.sl (.int .i64)) (.pair (.sl (.int .i64)) (.sl (.int .i64))))
abbrev DProof := (Bool × List Int) × (Bool × List Int) × Bool × List Int
def tyChange : Ty := (.pair (.int .i64) (.sl tyNode))
abbrev DChange := Int × Bool × List DNode
def tyCommand : Ty := (.pair (.sl tyNode) (.sl tyChange))
abbrev DCommand := (Bool × List DNode) × Bool × List DChange
def tyProgram : Ty := (.pair (.int .i64) (.pair (.int .i64) (.pair (.sl tyNode) (.sl tyCommand))))
abbrev DProgram := Int × Int × (Bool × List DNode) × Bool × List DCommand
noncomputable def h_laws_szIntS : FnH := ⟨95, Try.f95, (.tup (.v (.sl (.int .i64))) (.tup (.v (.int .i64)) .unit)), (.tup (.v (.int .i64)) .unit), [], [], [], [], []⟩
noncomputable def h_laws_szProof : FnH := ⟨30, Try.f30, (.tup (.v tyProof) (.tup (.v (.int .i64)) .unit)), (.tup (.v (.int .i64)) .unit), [], [], [], [], []⟩
noncomputable def h_laws_toIntS : FnH := ⟨25, Try.f25, (.tup (.v (.sl (.int .i64))) .unit), (.tup (.own 206850 (.int .i64) true) .unit), [], [], [(0, ⟨[(0, (.v (.sl (.int .i64)))), (3, (.own 206849 (.int .i64) true)), (4, (.v (.int .i64)))], [(.exit 0, [(1206849, (.own 206849 (.int .i64) true))])], [3]⟩)], [], []⟩
noncomputable def h_laws_toProof : FnH := ⟨32, Try.f32, (.tup (.v tyProof) .unit), (.tup (.pair (.own 206851 (.int .i64) true) (.pair (.own 206852 (.int .i64) true) (.own 206853 (.int .i64) true))) .unit), [], [], [], [], []⟩
noncomputable def h_spec_l1In : FnH := ⟨96, Try.f96, (.tup (.v (.int .i64)) (.tup (.v (.int .i64)) (.tup (.v (.int .i64)) .unit))), (.tup (.v .bool) .unit), [], [], [], [], []⟩
noncomputable def h_spec_l1Own : FnH := ⟨145, Try.f145, (.tup (.v (.sl (.int .i64))) .unit), (.tup (.own 206854 (.int .i64) true) .unit), [], [], [], [], []⟩
noncomputable def h_spec_l23Without : FnH := ⟨97, Try.f97, (.tup (.v (.sl (.int .i64))) (.tup (.v (.int .i64)) .unit)), (.tup (.own 206855 (.int .i64) true) .unit), [], [], [], [], []⟩
noncomputable def h_spec_DropPoint : FnH := ⟨31, Try.f31, (.tup (.v tyProof) (.tup (.v (.int .i64)) .unit)), (.tup (.pair (.own 206856 (.int .i64) true) (.pair (.own 206857 (.int .i64) true) (.own 206858 (.int .i64) true))) (.tup (.v .bool) .unit)), [], [], [], [], []⟩
noncomputable def h_slices_Grow_int : FnH := ⟨146, Try.f146, (.tup (.nl (.int .i64)) (.tup (.v (.int .i64)) .unit)), (.tup (.own 206859 (.int .i64) true) .unit), [], [], [], [], []⟩
noncomputable def h_slices_Concat_int : FnH := ⟨99, Try.f99, (.tup (.v (.sl (.sl (.int .i64)))) .unit), (.tup (.own 206862 (.int .i64) true) .unit), [], [], [(0, ⟨[(0, (.v (.sl (.sl (.int .i64))))), (3, (.v (.int .i64))), (9, (.v (.sl (.sl (.int .i64))))), (10, (.v (.int .i64))), (11, (.v (.int .i64)))], [(.exit 0, [(3, (.v (.int .i64)))])], [0]⟩), (2, ⟨[(6, (.own 206860 (.int .i64) true)), (25, (.v (.sl (.sl (.int .i64))))), (26, (.v (.int .i64))), (27, (.v (.int .i64)))], [(.exit 2, [(6, (.own 206861 (.int .i64) true))])], []⟩)], [], []⟩
noncomputable def h_impl_DropPoint_1 : FnH := ⟨98, Try.f98, (.tup (.v (.sl (.int .i64))) (.tup (.sp (.int .i64)) .unit)), (.tup (.own 206863 (.int .i64) true) .unit), [], [], [], [], []⟩
noncomputable def h_impl_DropPoint : FnH := ⟨33, Try.f33, (.tup (.v tyProof) (.tup (.v (.int .i64)) .unit)), (.tup (.pair (.own 206864 (.int .i64) true) (.pair (.own 206865 (.int .i64) true) (.own 206866 (.int .i64) true))) (.tup (.v .bool) .unit)), [], [], [], [], []⟩
noncomputable def h_laws_eqIntS : FnH := ⟨27, Try.f27, (.tup (.v (.sl (.int .i64))) (.tup (.v (.sl (.int .i64))) .unit)), (.tup (.v .bool) .unit), [], [], [(0, ⟨[(0, (.v (.sl (.int .i64)))), (1, (.v (.sl (.int .i64)))), (5, (.v (.int .i64)))], [(.ret, [(4, (.v .bool))]), (.exit 0, [])], []⟩)], [], []⟩
noncomputable def h_laws_eqProof : FnH := ⟨34, Try.f34, (.tup (.v tyProof) (.tup (.v tyProof) .unit)), (.tup (.v .bool) .unit), [], [], [], [], []⟩
noncomputable def h_laws_markIntS : FnH := ⟨44, Try.f44, (.tup (.own 206868 (.int .i64) true) (.tup (.v (.int .i64)) .unit)), (.tup (.own 206868 (.int .i64) true) (.tup (.v (.int .i64)) .unit)), [206868], [], [(0, ⟨[(0, (.own 206867 (.int .i64) true)), (1, (.v (.int .i64))), (5, (.v (.int .i64)))], [(.exit 0, [(1206867, (.own 206867 (.int .i64) true)), (1, (.v (.int .i64)))])], []⟩)], [], []⟩
noncomputable def h_laws_markProof : FnH := ⟨35, Try.f35, (.tup (.pair (.own 206869 (.int .i64) true) (.pair (.own 206870 (.int .i64) true) (.own 206871 (.int .i64) true))) (.tup (.v (.int .i64)) .unit)), (.tup (.own 206869 (.int .i64) true) (.tup (.own 206870 (.int .i64) true) (.tup (.own 206871 (.int .i64) true) (.tup (.v (.int .i64)) .unit)))), [206869, 206870, 206871], [], [], [], []⟩
noncomputable def h_laws_heldIntS : FnH := ⟨45, Try.f45, (.tup (.v (.sl (.int .i64))) (.tup (.v (.int .i64)) .unit)), (.tup (.v (.int .i64)) .unit), [], [], [(0, ⟨[(0, (.v (.sl (.int .i64)))), (1, (.v (.int .i64))), (5, (.v (.int .i64)))], [(.ret, [(4, (.v (.int .i64)))]), (.exit 0, [(1, (.v (.int .i64)))])], []⟩)], [], []⟩
noncomputable def h_laws_heldProof : FnH := ⟨36, Try.f36, (.tup (.v tyProof) (.tup (.v (.int .i64)) .unit)), (.tup (.v (.int .i64)) .unit), [], [], [], [], []⟩
noncomputable def h_laws_FnExactDropPoint : FnH := ⟨7, Try.f7, (.tup (.v tyProof) (.tup (.v (.int .i64)) .unit)), (.tup (.v .bool) .unit), [], [], [], [], []⟩
def extsL : List (Nat × ExtF) := []
def tysL : List (Nat × Ty) := [(3, (.int .i64)), (4, .bool), (39, (.sl (.int .i64))), (47, tyProof), (49, tyProof), (165, (.sl (.sl (.int .i64))))]
def nfsL : List (Nat × Nat) := [(47, 3), (49, 3)]
def cellsL : List Nat := []
noncomputable def keysL : List (Nat × FnH) := [(95, h_laws_szIntS), (30, h_laws_szProof), (25, h_laws_toIntS), (32, h_laws_toProof), (96, h_spec_l1In), (145, h_spec_l1Own), (97, h_spec_l23Without), (31, h_spec_DropPoint), (146, h_slices_Grow_int), (99, h_slices_Concat_int), (98, h_impl_DropPoint_1), (33, h_impl_DropPoint), (27, h_laws_eqIntS), (34, h_laws_eqProof), (44, h_laws_markIntS), (35, h_laws_markProof), (45, h_laws_heldIntS), (36, h_laws_heldProof), (7, h_laws_FnExactDropPoint)]
noncomputable def H : Hints := { extF := fun f => lookupN extsL f, ty := fun T => lookupN tysL T, nf := fun T => match lookupN nfsL T with | some n => n | none => 0, cell := fun T => hasN cellsL T, key := fun k => lookupN keysL k }
noncomputable def laws_szIntS (a : Bool × List Int) (left_ : Int) : Option Int := (inf H).call 95 (a, left_)
noncomputable def laws_szProof (a : DProof) (left_ : Int) : Option Int := (inf H).call 30 (a, left_)
noncomputable def laws_toIntS (a : Bool × List Int) : Option (Bool × List Int) := (inf H).call 25 a
theorem key_laws_toIntS : H.key 25 = some h_laws_toIntS := by kernel_rfl
noncomputable def laws_toIntS_L0 (a : Bool × List Int) (out : Bool × List Int) (i : Int) : Option (Bool × List Int) := (inf H).loop 25 0 (loopCode Try.f25 0) (a, (out, i))
noncomputable def laws_toProof (a : DProof) : Option DProof := (inf H).call 32 a
noncomputable def spec_l1In (n : Int) (lo : Int) (hi : Int) : Option Bool := (inf H).call 96 (n, (lo, hi))
noncomputable def spec_l1Own (l : Bool × List Int) : Option (Bool × List Int) := (inf H).call 145 l
noncomputable def spec_l23Without (l : Bool × List Int) (k_ : Int) : Option (Bool × List Int) := (inf H).call 97 (l, k_)
noncomputable def spec_DropPoint (r : DProof) (k_ : Int) : Option ((Bool × List Int) × (Bool × List Int) × (Bool × List Int) × Bool) := (inf H).call 31 (r, k_)
noncomputable def slices_Grow_int (n : Int) : Option (Bool × List Int) := (inf H).call 146 n
noncomputable def slices_Concat_int (slices : Bool × List (Bool × List Int)) : Option (Bool × List Int) := (inf H).call 99 slices
theorem key_slices_Concat_int : H.key 99 = some h_slices_Concat_int := by kernel_rfl
noncomputable def slices_Concat_int_L0 (slices : Bool × List (Bool × List Int)) (size_ : Int) (t9 : Bool × List (Bool × List Int)) (t10 : Int) (t11 : Int) : Option Int := (inf H).loop 99 0 (loopCode Try.f99 0) (slices, (size_, (t9, (t10, t11))))
noncomputable def slices_Concat_int_L2 (newslice : Bool × List Int) (t25 : Bool × List (Bool × List Int)) (t26 : Int) (t27 : Int) : Option (Bool × List Int) := (inf H).loop 99 2 (loopCode Try.f99 2) (newslice, (t25, (t26, t27)))
noncomputable def impl_DropPoint_1 (list : Bool × List Int) (a1 : Int) : Option (Bool × List Int) := (inf H).call 98 (list, a1)
noncomputable def impl_DropPoint (r : DProof) (k_ : Int) : Option ((Bool × List Int) × (Bool × List Int) × (Bool × List Int) × Bool) := (inf H).call 33 (r, k_)
noncomputable def laws_eqIntS (a : Bool × List Int) (b : Bool × List Int) : Option Bool := (inf H).call 27 (a, b)
theorem key_laws_eqIntS : H.key 27 = some h_laws_eqIntS := by kernel_rfl
noncomputable def laws_eqIntS_L0 (a : Bool × List Int) (b : Bool × List Int) (i : Int) : Option (Bool ⊕ Unit) := (inf H).loop 27 0 (loopCode Try.f27 0) (a, (b, i))
noncomputable def laws_eqProof (a : DProof) (b : DProof) : Option Bool := (inf H).call 34 (a, b)
noncomputable def laws_markIntS (a : Bool × List Int) (k_ : Int) : Option ((Bool × List Int) × Int) := (inf H).call 44 (a, k_)
theorem key_laws_markIntS : H.key 44 = some h_laws_markIntS := by kernel_rfl
noncomputable def laws_markIntS_L0 (a : Bool × List Int) (k_ : Int) (i : Int) : Option ((Bool × List Int) × Int) := (inf H).loop 44 0 (loopCode Try.f44 0) (a, (k_, i))
noncomputable def laws_markProof (a0_0 : Bool × List Int) (a0_1 : Bool × List Int) (a0_2 : Bool × List Int) (k_ : Int) : Option ((Bool × List Int) × (Bool × List Int) × (Bool × List Int) × Int) := (inf H).call 35 (a0_0, (a0_1, (a0_2, k_)))
noncomputable def laws_heldIntS (a : Bool × List Int) (k_ : Int) : Option Int := (inf H).call 45 (a, k_)
theorem key_laws_heldIntS : H.key 45 = some h_laws_heldIntS := by kernel_rfl
noncomputable def laws_heldIntS_L0 (a : Bool × List Int) (k_ : Int) (i : Int) : Option (Int ⊕ Int) := (inf H).loop 45 0 (loopCode Try.f45 0) (a, (k_, i))
noncomputable def laws_heldProof (a : DProof) (k_ : Int) : Option Int := (inf H).call 36 (a, k_)
noncomputable def laws_FnExactDropPoint (aR : DProof) (aK : Int) : Option Bool := (inf H).call 7 (aR, aK)
theorem laws_szIntS_eq (a : Bool × List Int) (left_ : Int) : laws_szIntS a left_ =
 bif decide ((IntKind.i64.wrap (left_ - (a.2.length : Int))) < 0) then
 some (-1)
else 
 some (IntKind.i64.wrap (left_ - (a.2.length : Int))) := Eq.trans (inf_call_eq (H := H) 95 (a, left_)) (by kernel_rfl)
theorem laws_szProof_eq (a : DProof) (left_ : Int) : laws_szProof a left_ =
(laws_szIntS a.1 left_).bind fun r =>
 bif decide (r < 0) then
 some (-1)
else 
(laws_szIntS a.2.1 r).bind fun r1 =>
 bif decide (r1 < 0) then
 some (-1)
else 
(laws_szIntS a.2.2 r1).bind fun r2 =>
 bif decide (r2 < 0) then
 some (-1)
else 
 some r2 := Eq.trans (inf_call_eq (H := H) 30 (a, left_)) (by kernel_rfl)
theorem laws_toIntS_L0_eq (a : Bool × List Int) (out : Bool × List Int) (i : Int) : laws_toIntS_L0 a out i =
 bif decide (i < (a.2.length : Int)) then
 bif decide (0 ≤ i) then
 bif decide (i < (a.2.length : Int)) then
 bif decide (0 ≤ i) then
 bif decide (i < (out.2.length : Int)) then
(laws_toIntS_L0 a (out.1, (out.2.set (Int.toNat i) (a.2.getD (Int.toNat i) 0))) (IntKind.i64.wrap (i + 1))).bind fun r => some r
else none
else none
else none
else none
else 
 some (out.1, out.2) := Eq.trans (inf_loop_eq (H := H) 25 0 (loopCode Try.f25 0) (a, (out, i)) key_laws_toIntS) (by kernel_rfl)
theorem laws_toIntS_eq (a : Bool × List Int) : laws_toIntS a =
 bif decide (0 ≤ (a.2.length : Int)) then
 bif decide ((a.2.length : Int) ≤ lim) then
 bif decide ((a.2.length : Int) ≤ (a.2.length : Int)) then
 bif decide ((a.2.length : Int) ≤ lim) then
(laws_toIntS_L0 a (false, (List.replicate (Int.toNat (a.2.length : Int)) (0 : Int))) 0).bind fun r =>
 some (r.1, r.2)
else none
else none
else none
else none := Eq.trans (inf_call_eq (H := H) 25 a) (by kernel_rfl)
theorem laws_toProof_eq (a : DProof) : laws_toProof a =
(laws_toIntS a.1).bind fun r =>
(laws_toIntS a.2.1).bind fun r1 =>
(laws_toIntS a.2.2).bind fun r2 =>
 some ((r.1, r.2), ((r1.1, r1.2), (r2.1, r2.2))) := Eq.trans (inf_call_eq (H := H) 32 a) (by kernel_rfl)
theorem spec_l1In_eq (n : Int) (lo : Int) (hi : Int) : spec_l1In n lo hi =
 bif decide (n ≥ lo) then
 some (decide (n ≤ hi))
else 
 some false := Eq.trans (inf_call_eq (H := H) 96 (n, (lo, hi))) (by kernel_rfl)
theorem spec_l1Own_eq (l : Bool × List Int) : spec_l1Own l =
 bif decide (([] : List Int).length + l.2.length ≤ lim) then
 some (false, ([] ++ l.2))
else none := Eq.trans (inf_call_eq (H := H) 145 l) (by kernel_rfl)
theorem spec_l23Without_eq (l : Bool × List Int) (k_ : Int) : spec_l23Without l k_ =
 bif decide (0 ≤ k_) then
 bif decide (k_ ≤ (l.2.length : Int)) then
(spec_l1Own (l.1, ((l.2.take (Int.toNat k_)).drop 0))).bind fun r =>
 bif decide (0 ≤ (IntKind.i64.wrap (k_ + 1))) then
 bif decide ((IntKind.i64.wrap (k_ + 1)) ≤ (l.2.length : Int)) then
 bif decide (r.2.length + ((l.2.take l.2.length).drop (Int.toNat (IntKind.i64.wrap (k_ + 1)))).length ≤ lim) then
 some ((r.1 && ((l.2.take l.2.length).drop (Int.toNat (IntKind.i64.wrap (k_ + 1)))).isEmpty), (r.2 ++ ((l.2.take l.2.length).drop (Int.toNat (IntKind.i64.wrap (k_ + 1))))))
else none
else none
else none
else none
else none := Eq.trans (inf_call_eq (H := H) 97 (l, k_)) (by kernel_rfl)
theorem spec_DropPoint_eq (r : DProof) (k_ : Int) : spec_DropPoint r k_ =
 bif decide ((r.1.2.length : Int) > 1200) then
 some ((true, []), ((true, []), ((true, []), false)))
else 
 bif ((r.2.1.2.length : Int) != (r.1.2.length : Int)) then
 some ((true, []), ((true, []), ((true, []), false)))
else 
 bif ((r.2.2.2.length : Int) != (r.1.2.length : Int)) then
 some ((true, []), ((true, []), ((true, []), false)))
else 
(spec_l1In k_ 0 (IntKind.i64.wrap ((r.1.2.length : Int) - 1))).bind fun r1 =>
 bif !r1 then
 some ((true, []), ((true, []), ((true, []), false)))
else 
(spec_l23Without r.1 k_).bind fun r2 =>
(spec_l23Without r.2.1 k_).bind fun r3 =>
(spec_l23Without r.2.2 k_).bind fun r4 =>
 some ((r2.1, r2.2), ((r3.1, r3.2), ((r4.1, r4.2), true))) := Eq.trans (inf_call_eq (H := H) 31 (r, k_)) (by kernel_rfl)
theorem slices_Grow_int_eq (n : Int) : slices_Grow_int n =
 bif decide (n < 0) then
 none
else 
 bif decide ((IntKind.i64.wrap (n - (IntKind.i64.wrap (0 - 0)))) > 0) then
 bif decide (0 ≤ (IntKind.i64.wrap (n - (IntKind.i64.wrap (0 - 0))))) then
 bif decide ((IntKind.i64.wrap (n - (IntKind.i64.wrap (0 - 0)))) ≤ lim) then
 bif decide (([] : List Int).length + (List.replicate (Int.toNat (IntKind.i64.wrap (n - (IntKind.i64.wrap (0 - 0))))) (0 : Int)).length ≤ lim) then
 bif decide (0 ≤ (([] ++ (List.replicate (Int.toNat (IntKind.i64.wrap (n - (IntKind.i64.wrap (0 - 0))))) (0 : Int))).length : Int)) then
 some ((List.replicate (Int.toNat (IntKind.i64.wrap (n - (IntKind.i64.wrap (0 - 0))))) (0 : Int)).isEmpty, ((([] ++ (List.replicate (Int.toNat (IntKind.i64.wrap (n - (IntKind.i64.wrap (0 - 0))))) (0 : Int))).take 0).drop 0))
else none
else none
else none
else none
else 
 some (true, []) := Eq.trans (inf_call_eq (H := H) 146 n) (by kernel_rfl)
theorem slices_Concat_int_L0_eq (slices : Bool × List (Bool × List Int)) (size_ : Int) (t9 : Bool × List (Bool × List Int)) (t10 : Int) (t11 : Int) : slices_Concat_int_L0 slices size_ t9 t10 t11 =
 bif decide (t11 < t10) then
 bif decide (0 ≤ t11) then
 bif decide (t11 < (t9.2.length : Int)) then
 bif decide ((IntKind.i64.wrap (size_ + (((t9.2.getD (Int.toNat t11) (true, [])).2).length : Int))) < 0) then
 none
else 
(slices_Concat_int_L0 slices (IntKind.i64.wrap (size_ + (((t9.2.getD (Int.toNat t11) (true, [])).2).length : Int))) t9 t10 (IntKind.i64.wrap (t11 + 1))).bind fun r => some r
else none
else none
else 
 some size_ := Eq.trans (inf_loop_eq (H := H) 99 0 (loopCode Try.f99 0) (slices, (size_, (t9, (t10, t11)))) key_slices_Concat_int) (by kernel_rfl)
theorem slices_Concat_int_L2_eq (newslice : Bool × List Int) (t25 : Bool × List (Bool × List Int)) (t26 : Int) (t27 : Int) : slices_Concat_int_L2 newslice t25 t26 t27 =
 bif decide (t27 < t26) then
 bif decide (0 ≤ t27) then
 bif decide (t27 < (t25.2.length : Int)) then
 bif decide (newslice.2.length + ((t25.2.getD (Int.toNat t27) (true, [])).2).length ≤ lim) then
(slices_Concat_int_L2 ((newslice.1 && ((t25.2.getD (Int.toNat t27) (true, [])).2).isEmpty), (newslice.2 ++ ((t25.2.getD (Int.toNat t27) (true, [])).2))) t25 t26 (IntKind.i64.wrap (t27 + 1))).bind fun r => some r
else none
else none
else none
else 
 some (newslice.1, newslice.2) := Eq.trans (inf_loop_eq (H := H) 99 2 (loopCode Try.f99 2) (newslice, (t25, (t26, t27))) key_slices_Concat_int) (by kernel_rfl)
theorem slices_Concat_int_eq (slices : Bool × List (Bool × List Int)) : slices_Concat_int slices =
(slices_Concat_int_L0 slices 0 slices (slices.2.length : Int) 0).bind fun r =>
(slices_Grow_int r).bind fun r1 =>
(slices_Concat_int_L2 (r1.1, r1.2) slices (slices.2.length : Int) 0).bind fun r2 =>
 some (r2.1, r2.2) := Eq.trans (inf_call_eq (H := H) 99 slices) (by kernel_rfl)
theorem impl_DropPoint_1_eq (list : Bool × List Int) (a1 : Int) : impl_DropPoint_1 list a1 =
 bif decide (0 ≤ a1) then
 bif decide (a1 ≤ (list.2.length : Int)) then
 bif decide (0 ≤ (IntKind.i64.wrap (a1 + 1))) then
 bif decide ((IntKind.i64.wrap (a1 + 1)) ≤ (list.2.length : Int)) then
(slices_Concat_int (false, [(list.1, ((list.2.take (Int.toNat a1)).drop 0)), (list.1, ((list.2.take list.2.length).drop (Int.toNat (IntKind.i64.wrap (a1 + 1)))))])).bind fun r =>
 some (r.1, r.2)
else none
else none
else none
else none := Eq.trans (inf_call_eq (H := H) 98 (list, a1)) (by kernel_rfl)
theorem impl_DropPoint_eq (r : DProof) (k_ : Int) : impl_DropPoint r k_ =
 bif decide ((r.1.2.length : Int) > 1200) then
 some ((true, []), ((true, []), ((true, []), false)))
else 
 bif ((r.2.1.2.length : Int) != (r.1.2.length : Int)) then
 some ((true, []), ((true, []), ((true, []), false)))
else 
 bif ((r.2.2.2.length : Int) != (r.1.2.length : Int)) then
 some ((true, []), ((true, []), ((true, []), false)))
else 
 bif decide (k_ < 0) then
 some ((true, []), ((true, []), ((true, []), false)))
else 
 bif decide (k_ ≥ (r.1.2.length : Int)) then
 some ((true, []), ((true, []), ((true, []), false)))
else 
(impl_DropPoint_1 r.1 k_).bind fun r1 =>
(impl_DropPoint_1 r.2.1 k_).bind fun r2 =>
(impl_DropPoint_1 r.2.2 k_).bind fun r3 =>
 some ((r1.1, r1.2), ((r2.1, r2.2), ((r3.1, r3.2), true))) := Eq.trans (inf_call_eq (H := H) 33 (r, k_)) (by kernel_rfl)
theorem laws_eqIntS_L0_eq (a : Bool × List Int) (b : Bool × List Int) (i : Int) : laws_eqIntS_L0 a b i =
 bif decide (i < (a.2.length : Int)) then
 bif decide (0 ≤ i) then
 bif decide (i < (a.2.length : Int)) then
 bif decide (0 ≤ i) then
 bif decide (i < (b.2.length : Int)) then
 bif ((a.2.getD (Int.toNat i) 0) != (b.2.getD (Int.toNat i) 0)) then
 some (.inl false)
else 
(laws_eqIntS_L0 a b (IntKind.i64.wrap (i + 1))).bind fun r => some r
else none
else none
else none
else none
else 
 some (.inr ()) := Eq.trans (inf_loop_eq (H := H) 27 0 (loopCode Try.f27 0) (a, (b, i)) key_laws_eqIntS) (by kernel_rfl)
theorem laws_eqIntS_eq (a : Bool × List Int) (b : Bool × List Int) : laws_eqIntS a b =
 bif ((a.2.length : Int) != (b.2.length : Int)) then
 some false
else 
(laws_eqIntS_L0 a b 0).bind fun r =>
 match r with
| .inl y =>
 some y
| .inr z =>
 some true := Eq.trans (inf_call_eq (H := H) 27 (a, b)) (by kernel_rfl)
theorem laws_eqProof_eq (a : DProof) (b : DProof) : laws_eqProof a b =
(laws_eqIntS a.1 b.1).bind fun r =>
 bif !r then
 some false
else 
(laws_eqIntS a.2.1 b.2.1).bind fun r1 =>
 bif !r1 then
 some false
else 
(laws_eqIntS a.2.2 b.2.2).bind fun r2 =>
 bif !r2 then
 some false
else 
 some true := Eq.trans (inf_call_eq (H := H) 34 (a, b)) (by kernel_rfl)
theorem laws_markIntS_L0_eq (a : Bool × List Int) (k_ : Int) (i : Int) : laws_markIntS_L0 a k_ i =
 bif decide (i < (a.2.length : Int)) then
 bif decide (0 ≤ i) then
 bif decide (i < (a.2.length : Int)) then
(laws_markIntS_L0 (a.1, (a.2.set (Int.toNat i) k_)) (IntKind.i64.wrap (k_ + 1)) (IntKind.i64.wrap (i + 1))).bind fun r => some r
else none
else none
else 
 some ((a.1, a.2), k_) := Eq.trans (inf_loop_eq (H := H) 44 0 (loopCode Try.f44 0) (a, (k_, i)) key_laws_markIntS) (by kernel_rfl)
theorem laws_markIntS_eq (a : Bool × List Int) (k_ : Int) : laws_markIntS a k_ =
(laws_markIntS_L0 (a.1, a.2) k_ 0).bind fun r =>
 some ((r.1.1, r.1.2), r.2) := Eq.trans (inf_call_eq (H := H) 44 (a, k_)) (by kernel_rfl)
theorem laws_markProof_eq (a0_0 : Bool × List Int) (a0_1 : Bool × List Int) (a0_2 : Bool × List Int) (k_ : Int) : laws_markProof a0_0 a0_1 a0_2 k_ =
(laws_markIntS (a0_0.1, a0_0.2) k_).bind fun r =>
(laws_markIntS (a0_1.1, a0_1.2) r.2).bind fun r1 =>
(laws_markIntS (a0_2.1, a0_2.2) r1.2).bind fun r2 =>
 some ((r.1.1, r.1.2), ((r1.1.1, r1.1.2), ((r2.1.1, r2.1.2), r2.2))) := Eq.trans (inf_call_eq (H := H) 35 (a0_0, (a0_1, (a0_2, k_)))) (by kernel_rfl)
theorem laws_heldIntS_L0_eq (a : Bool × List Int) (k_ : Int) (i : Int) : laws_heldIntS_L0 a k_ i =
 bif decide (i < (a.2.length : Int)) then
 bif decide (0 ≤ i) then
 bif decide (i < (a.2.length : Int)) then
 bif ((a.2.getD (Int.toNat i) 0) != k_) then
 some (.inl (-1))
else 
(laws_heldIntS_L0 a (IntKind.i64.wrap (k_ + 1)) (IntKind.i64.wrap (i + 1))).bind fun r => some r
else none
else none
else 
 some (.inr k_) := Eq.trans (inf_loop_eq (H := H) 45 0 (loopCode Try.f45 0) (a, (k_, i)) key_laws_heldIntS) (by kernel_rfl)
theorem laws_heldIntS_eq (a : Bool × List Int) (k_ : Int) : laws_heldIntS a k_ =
(laws_heldIntS_L0 a k_ 0).bind fun r =>
 match r with
| .inl y =>
 some y
| .inr z =>
 some z := Eq.trans (inf_call_eq (H := H) 45 (a, k_)) (by kernel_rfl)
theorem laws_heldProof_eq (a : DProof) (k_ : Int) : laws_heldProof a k_ =
(laws_heldIntS a.1 k_).bind fun r =>
 bif decide (r < 0) then
 some (-1)
else 
(laws_heldIntS a.2.1 r).bind fun r1 =>
 bif decide (r1 < 0) then
 some (-1)
else 
(laws_heldIntS a.2.2 r1).bind fun r2 =>
 bif decide (r2 < 0) then
 some (-1)
else 
 some r2 := Eq.trans (inf_call_eq (H := H) 36 (a, k_)) (by kernel_rfl)
theorem laws_FnExactDropPoint_eq (aR : DProof) (aK : Int) : laws_FnExactDropPoint aR aK =
(laws_szProof aR 1048576).bind fun r =>
 bif decide (r < 0) then
 some true
else 
(laws_toProof aR).bind fun r1 =>
(spec_DropPoint ((r1.1.1, r1.1.2), ((r1.2.1.1, r1.2.1.2), (r1.2.2.1, r1.2.2.2))) aK).bind fun r2 =>
(laws_toProof aR).bind fun r3 =>
(impl_DropPoint ((r3.1.1, r3.1.2), ((r3.2.1.1, r3.2.1.2), (r3.2.2.1, r3.2.2.2))) aK).bind fun r4 =>
(laws_eqProof ((r4.1.1, r4.1.2), ((r4.2.1.1, r4.2.1.2), (r4.2.2.1.1, r4.2.2.1.2))) ((r2.1.1, r2.1.2), ((r2.2.1.1, r2.2.1.2), (r2.2.2.1.1, r2.2.2.1.2)))).bind fun r5 =>
 bif !r5 then
 some false
else 
 bif !(r4.2.2.2 == r2.2.2.2) then
 some false
else 
(laws_toProof aR).bind fun r6 =>
(laws_eqProof ((r3.1.1, r3.1.2), ((r3.2.1.1, r3.2.1.2), (r3.2.2.1, r3.2.2.2))) ((r6.1.1, r6.1.2), ((r6.2.1.1, r6.2.1.2), (r6.2.2.1, r6.2.2.2)))).bind fun r7 =>
 bif !r7 then
 some false
else 
(laws_markProof (r3.1.1, r3.1.2) (r3.2.1.1, r3.2.1.2) (r3.2.2.1, r3.2.2.2) 1).bind fun r8 =>
 bif decide (r8.2.2.2 < 0) then
 some false
else 
(laws_eqProof ((r4.1.1, r4.1.2), ((r4.2.1.1, r4.2.1.2), (r4.2.2.1.1, r4.2.2.1.2))) ((r2.1.1, r2.1.2), ((r2.2.1.1, r2.2.1.2), (r2.2.2.1.1, r2.2.2.1.2)))).bind fun r9 =>
 bif !r9 then
 some false
else 
 bif !(r4.2.2.2 == r2.2.2.2) then
 some false
else 
(laws_markProof (r4.1.1, r4.1.2) (r4.2.1.1, r4.2.1.2) (r4.2.2.1.1, r4.2.2.1.2) 1).bind fun r10 =>
(laws_heldProof ((r10.1.1, r10.1.2), ((r10.2.1.1, r10.2.1.2), (r10.2.2.1.1, r10.2.2.1.2))) 1).bind fun r11 =>
 bif decide (r11 < 0) then
 some false
else 
 bif (r11 != r10.2.2.2) then
 some false
else 
(laws_toProof aR).bind fun r12 =>
(impl_DropPoint ((r12.1.1, r12.1.2), ((r12.2.1.1, r12.2.1.2), (r12.2.2.1, r12.2.2.2))) aK).bind fun r13 =>
(laws_eqProof ((r13.1.1, r13.1.2), ((r13.2.1.1, r13.2.1.2), (r13.2.2.1.1, r13.2.2.1.2))) ((r2.1.1, r2.1.2), ((r2.2.1.1, r2.2.1.2), (r2.2.2.1.1, r2.2.2.1.2)))).bind fun r14 =>
 bif !r14 then
 some false
else 
 bif !(r13.2.2.2 == r2.2.2.2) then
 some false
else 
(laws_heldProof ((r10.1.1, r10.1.2), ((r10.2.1.1, r10.2.1.2), (r10.2.2.1.1, r10.2.2.1.2))) 1).bind fun r15 =>
 bif decide (r15 < 0) then
 some false
else 
 bif (r15 != r10.2.2.2) then
 some false
else 
 some true := Eq.trans (inf_call_eq (H := H) 7 (aR, aK)) (by kernel_rfl)
theorem fit : Fit Try.prog H := fit_of (exts := extsL) (tys := tysL) (cells := cellsL) (keys := keysL) rfl rfl rfl rfl (by kernel_rfl) (by kernel_rfl) ⟨⟨Try.func95, by kernel_rfl, by kernel_rfl⟩, ⟨Try.func30, by kernel_rfl, by kernel_rfl⟩, ⟨Try.func25, by kernel_rfl, by kernel_rfl⟩, ⟨Try.func32, by kernel_rfl, by kernel_rfl⟩, ⟨Try.func96, by kernel_rfl, by kernel_rfl⟩, ⟨Try.func145, by kernel_rfl, by kernel_rfl⟩, ⟨Try.func97, by kernel_rfl, by kernel_rfl⟩, ⟨Try.func31, by kernel_rfl, by kernel_rfl⟩, ⟨Try.func146, by kernel_rfl, by kernel_rfl⟩, ⟨Try.func99, by kernel_rfl, by kernel_rfl⟩, ⟨Try.func98, by kernel_rfl, by kernel_rfl⟩, ⟨Try.func33, by kernel_rfl, by kernel_rfl⟩, ⟨Try.func27, by kernel_rfl, by kernel_rfl⟩, ⟨Try.func34, by kernel_rfl, by kernel_rfl⟩, ⟨Try.func44, by kernel_rfl, by kernel_rfl⟩, ⟨Try.func35, by kernel_rfl, by kernel_rfl⟩, ⟨Try.func45, by kernel_rfl, by kernel_rfl⟩, ⟨Try.func36, by kernel_rfl, by kernel_rfl⟩, ⟨Try.func7, by kernel_rfl, by kernel_rfl⟩, trivial⟩ trivial (by kernel_rfl)
end Go.Proofs.Ytdfccojbamlkdaa.R
