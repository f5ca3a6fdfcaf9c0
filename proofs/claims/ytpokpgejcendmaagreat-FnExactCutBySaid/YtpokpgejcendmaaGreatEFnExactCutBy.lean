/- The functions of the law FnExactCutBy as equations: the other part. -/
import Derived.Test.YtpokpgejcendmaaGreatEFnExactCutByA
import Derived.KernelRfl
set_option linter.unusedVariables false
namespace Go.Proofs.YtpokpgejcendmaaGreat.R
open Go.Rf Go.Proofs
theorem slices_Grow_Node_eq (n : Int) : slices_Grow_Node n =
 bif decide (n < 0) then
 none
else 
 bif decide ((IntKind.i64.wrap (n - (IntKind.i64.wrap (0 - 0)))) > 0) then
 bif decide (0 ≤ (IntKind.i64.wrap (n - (IntKind.i64.wrap (0 - 0))))) then
 bif decide ((IntKind.i64.wrap (n - (IntKind.i64.wrap (0 - 0)))) ≤ lim) then
 bif decide (([] : List DNode).length + (List.replicate (Int.toNat (IntKind.i64.wrap (n - (IntKind.i64.wrap (0 - 0))))) ((0, 0) : DNode)).length ≤ lim) then
 bif decide (0 ≤ (([] ++ (List.replicate (Int.toNat (IntKind.i64.wrap (n - (IntKind.i64.wrap (0 - 0))))) ((0, 0) : DNode))).length : Int)) then
 some ((List.replicate (Int.toNat (IntKind.i64.wrap (n - (IntKind.i64.wrap (0 - 0))))) ((0, 0) : DNode)).isEmpty, ((([] ++ (List.replicate (Int.toNat (IntKind.i64.wrap (n - (IntKind.i64.wrap (0 - 0))))) ((0, 0) : DNode))).take 0).drop 0))
else none
else none
else none
else none
else 
 some (true, []) := Eq.trans (inf_call_eq (H := H) 305 n) (by kernel_rfl)
theorem slices_Concat_Node_L0_eq (slices : Bool × List (Bool × List DNode)) (size_ : Int) (t9 : Bool × List (Bool × List DNode)) (t10 : Int) (t11 : Int) : slices_Concat_Node_L0 slices size_ t9 t10 t11 =
 bif decide (t11 < t10) then
 bif decide (0 ≤ t11) then
 bif decide (t11 < (t9.2.length : Int)) then
 bif decide ((IntKind.i64.wrap (size_ + (((t9.2.getD (Int.toNat t11) (true, [])).2).length : Int))) < 0) then
 none
else 
(slices_Concat_Node_L0 slices (IntKind.i64.wrap (size_ + (((t9.2.getD (Int.toNat t11) (true, [])).2).length : Int))) t9 t10 (IntKind.i64.wrap (t11 + 1))).bind fun r => some r
else none
else none
else 
 some size_ := Eq.trans (inf_loop_eq (H := H) 267 0 (loopCode Tryz.f267 0) (slices, (size_, (t9, (t10, t11)))) key_slices_Concat_Node) (by kernel_rfl)
theorem slices_Concat_Node_L2_eq (newslice : Bool × List DNode) (t25 : Bool × List (Bool × List DNode)) (t26 : Int) (t27 : Int) : slices_Concat_Node_L2 newslice t25 t26 t27 =
 bif decide (t27 < t26) then
 bif decide (0 ≤ t27) then
 bif decide (t27 < (t25.2.length : Int)) then
 bif decide (newslice.2.length + ((t25.2.getD (Int.toNat t27) (true, [])).2).length ≤ lim) then
(slices_Concat_Node_L2 ((newslice.1 && ((t25.2.getD (Int.toNat t27) (true, [])).2).isEmpty), (newslice.2 ++ ((t25.2.getD (Int.toNat t27) (true, [])).2))) t25 t26 (IntKind.i64.wrap (t27 + 1))).bind fun r => some r
else none
else none
else none
else 
 some (newslice.1, newslice.2) := Eq.trans (inf_loop_eq (H := H) 267 2 (loopCode Tryz.f267 2) (newslice, (t25, (t26, t27))) key_slices_Concat_Node) (by kernel_rfl)
theorem slices_Concat_Node_eq (slices : Bool × List (Bool × List DNode)) : slices_Concat_Node slices =
(slices_Concat_Node_L0 slices 0 slices (slices.2.length : Int) 0).bind fun r =>
(slices_Grow_Node r).bind fun r1 =>
(slices_Concat_Node_L2 (r1.1, r1.2) slices (slices.2.length : Int) 0).bind fun r2 =>
 some (r2.1, r2.2) := Eq.trans (inf_call_eq (H := H) 267 slices) (by kernel_rfl)
theorem impl_Program_holdsAll_1_eq (no : Int) (a1 : DProgram) (a2 : Bool × List DNode) : impl_Program_holdsAll_1 no a1 a2 =
(impl_Program_stateOf a1 no).bind fun r =>
(impl_Program_holds a1 a2 (r.1, r.2)).bind fun r1 =>
 some (!r1) := Eq.trans (inf_call_eq (H := H) 306 (no, (a1, a2))) (by kernel_rfl)
theorem slices_IndexFunc_int_by_Program_holdsAll_1_L0_eq (s : Bool × List Int) (f : DProgram × (Bool × List DNode) × Unit) (t7 : Int) (t8 : Int) : slices_IndexFunc_int_by_Program_holdsAll_1_L0 s f t7 t8 =
 bif decide (t8 < t7) then
 bif decide (0 ≤ t8) then
 bif decide (t8 < (s.2.length : Int)) then
(impl_Program_holdsAll_1 (s.2.getD (Int.toNat t8) 0) f.1 f.2.1).bind fun r =>
 bif r then
 some (.inl t8)
else 
(slices_IndexFunc_int_by_Program_holdsAll_1_L0 s f t7 (IntKind.i64.wrap (t8 + 1))).bind fun r => some r
else none
else none
else 
 some (.inr ()) := Eq.trans (inf_loop_eq (H := H) 10170 0 (loopCode Tryz.f193 0) (s, (f, (t7, t8))) key_slices_IndexFunc_int_by_Program_holdsAll_1) (by kernel_rfl)
theorem slices_IndexFunc_int_by_Program_holdsAll_1_eq (s : Bool × List Int) (f : DProgram × (Bool × List DNode) × Unit) : slices_IndexFunc_int_by_Program_holdsAll_1 s f =
(slices_IndexFunc_int_by_Program_holdsAll_1_L0 s f (s.2.length : Int) 0).bind fun r =>
 match r with
| .inl y =>
 some y
| .inr z =>
 some (-1) := Eq.trans (inf_call_eq (H := H) 10170 (s, f)) (by kernel_rfl)
theorem slices_ContainsFunc_int_by_Program_holdsAll_1_eq (s : Bool × List Int) (f : DProgram × (Bool × List DNode) × Unit) : slices_ContainsFunc_int_by_Program_holdsAll_1 s f =
(slices_IndexFunc_int_by_Program_holdsAll_1 s f).bind fun r =>
 some (decide (r ≥ 0)) := Eq.trans (inf_call_eq (H := H) 10169 (s, f)) (by kernel_rfl)
theorem impl_Program_holdsAll_eq (p : DProgram) (t : Bool × List DNode) (some_ : Bool × List Int) : impl_Program_holdsAll p t some_ =
(slices_ContainsFunc_int_by_Program_holdsAll_1 some_ (p, (t, ()))).bind fun r =>
 some (!r) := Eq.trans (inf_call_eq (H := H) 268 (p, (t, some_))) (by kernel_rfl)
theorem impl_Program_separates_eq (p : DProgram) (t : Bool × List DNode) (a : Bool × List Int) (b : Bool × List Int) : impl_Program_separates p t a b =
(slices_Concat_Node (false, [t, (false, [(19, 0)])])).bind fun r =>
(impl_Program_holdsAll p t a).bind fun r1 =>
 bif r1 then
(impl_Program_holdsAll p (r.1, r.2) b).bind fun r2 =>
 bif r2 then
 some true
else 
(impl_Program_holdsAll p (r.1, r.2) a).bind fun r3 =>
 bif r3 then
(impl_Program_holdsAll p t b).bind fun r4 =>
 some r4
else 
 some false
else 
(impl_Program_holdsAll p (r.1, r.2) a).bind fun r5 =>
 bif r5 then
(impl_Program_holdsAll p t b).bind fun r6 =>
 some r6
else 
 some false := Eq.trans (inf_call_eq (H := H) 211 (p, (t, (a, b)))) (by kernel_rfl)
theorem impl_Program_firstApart_1_eq (t : Bool × List DNode) (a1 : DProgram) (a2 : Bool × List Int) (a3 : Bool × List Int) : impl_Program_firstApart_1 t a1 a2 a3 =
(impl_Program_separates a1 t a2 a3).bind fun r =>
 some r := Eq.trans (inf_call_eq (H := H) 210 (t, (a1, (a2, a3)))) (by kernel_rfl)
theorem slices_IndexFunc_Node_by_Program_firstApart_1_L0_eq (s : Bool × List (Bool × List DNode)) (f : DProgram × (Bool × List Int) × (Bool × List Int) × Unit) (t7 : Int) (t8 : Int) : slices_IndexFunc_Node_by_Program_firstApart_1_L0 s f t7 t8 =
 bif decide (t8 < t7) then
 bif decide (0 ≤ t8) then
 bif decide (t8 < (s.2.length : Int)) then
(impl_Program_firstApart_1 (s.2.getD (Int.toNat t8) (true, [])) f.1 f.2.1 f.2.2.1).bind fun r =>
 bif r then
 some (.inl t8)
else 
(slices_IndexFunc_Node_by_Program_firstApart_1_L0 s f t7 (IntKind.i64.wrap (t8 + 1))).bind fun r => some r
else none
else none
else 
 some (.inr ()) := Eq.trans (inf_loop_eq (H := H) 10163 0 (loopCode Tryz.f175 0) (s, (f, (t7, t8))) key_slices_IndexFunc_Node_by_Program_firstApart_1) (by kernel_rfl)
theorem slices_IndexFunc_Node_by_Program_firstApart_1_eq (s : Bool × List (Bool × List DNode)) (f : DProgram × (Bool × List Int) × (Bool × List Int) × Unit) : slices_IndexFunc_Node_by_Program_firstApart_1 s f =
(slices_IndexFunc_Node_by_Program_firstApart_1_L0 s f (s.2.length : Int) 0).bind fun r =>
 match r with
| .inl y =>
 some y
| .inr z =>
 some (-1) := Eq.trans (inf_call_eq (H := H) 10163 (s, f)) (by kernel_rfl)
theorem impl_Program_firstApart_eq (p : DProgram) (terms : Bool × List (Bool × List DNode)) (a : Bool × List Int) (b : Bool × List Int) : impl_Program_firstApart p terms a b =
(slices_IndexFunc_Node_by_Program_firstApart_1 terms (p, (a, (b, ())))).bind fun r =>
 some r := Eq.trans (inf_call_eq (H := H) 149 (p, (terms, (a, b)))) (by kernel_rfl)
theorem impl_numbered_L0_eq (t2 : DSight) (known : Bool × List (DSaid × Int)) (v : Bool × List Int) (t11 : Bool × List DSaid) (t12 : Int) (t13 : Int) : impl_numbered_L0 t2 known v t11 t12 t13 =
 bif decide (t13 < t12) then
 bif decide (0 ≤ t13) then
 bif decide (t13 < (t11.2.length : Int)) then
 bif !((mapGet tySaid (.int .i64) known.2 (t11.2.getD (Int.toNat t13) (0, 0))).isSome) then
 bif decide (known.2.length ≤ lim) then
 bif decide (v.2.length + [(known.2.length : Int)].length ≤ lim) then
(impl_numbered_L0 t2 (false, (mapSet tySaid (.int .i64) known.2 (t11.2.getD (Int.toNat t13) (0, 0)) (known.2.length : Int))) ((v.1 && false), (v.2 ++ [(known.2.length : Int)])) t11 t12 (IntKind.i64.wrap (t13 + 1))).bind fun r => some r
else none
else none
else 
 bif decide (v.2.length + [((mapGet tySaid (.int .i64) known.2 (t11.2.getD (Int.toNat t13) (0, 0))).getD 0)].length ≤ lim) then
(impl_numbered_L0 t2 (false, known.2) ((v.1 && false), (v.2 ++ [((mapGet tySaid (.int .i64) known.2 (t11.2.getD (Int.toNat t13) (0, 0))).getD 0)])) t11 t12 (IntKind.i64.wrap (t13 + 1))).bind fun r => some r
else none
else none
else none
else 
 some ((false, known.2), (v.1, v.2)) := Eq.trans (inf_loop_eq (H := H) 181 0 (loopCode Tryz.f181 0) (t2, (known, (v, (t11, (t12, t13))))) key_impl_numbered) (by kernel_rfl)
theorem impl_numbered_eq (keys : Bool × List DSaid) : impl_numbered keys =
(impl_numbered_L0 (true, []) (false, []) (true, []) keys (keys.2.length : Int) 0).bind fun r =>
 some (r.2.1, r.2.2) := Eq.trans (inf_call_eq (H := H) 181 keys) (by kernel_rfl)
theorem impl_meetOf_L0_eq (b : DSight) (t4 : DSight) (keys : Bool × List DSaid) (t10 : Bool × List Int) (t11 : Int) (t12 : Int) : impl_meetOf_L0 b t4 keys t10 t11 t12 =
 bif decide (t12 < t11) then
 bif decide (0 ≤ t12) then
 bif decide (t12 < (t10.2.length : Int)) then
 bif decide (0 ≤ t12) then
 bif decide (t12 < (b.2.length : Int)) then
 bif decide (keys.2.length + [((t10.2.getD (Int.toNat t12) 0), (b.2.getD (Int.toNat t12) 0))].length ≤ lim) then
(impl_meetOf_L0 b t4 ((keys.1 && false), (keys.2 ++ [((t10.2.getD (Int.toNat t12) 0), (b.2.getD (Int.toNat t12) 0))])) t10 t11 (IntKind.i64.wrap (t12 + 1))).bind fun r => some r
else none
else none
else none
else none
else none
else 
 some (keys.1, keys.2) := Eq.trans (inf_loop_eq (H := H) 126 0 (loopCode Tryz.f126 0) (b, (t4, (keys, (t10, (t11, t12))))) key_impl_meetOf) (by kernel_rfl)
theorem impl_meetOf_eq (a : DSight) (b : DSight) : impl_meetOf a b =
(impl_meetOf_L0 b (true, []) (false, []) a (a.2.length : Int) 0).bind fun r =>
(impl_numbered (r.1, r.2)).bind fun r1 =>
 some (r1.1, r1.2) := Eq.trans (inf_call_eq (H := H) 126 (a, b)) (by kernel_rfl)
theorem impl_cutOut_L0_eq (v : DSight) (t4 : DSight) (in_ : Bool × List Int) (t13 : Bool × List Int) (t14 : Int) (t15 : Int) : impl_cutOut_L0 v t4 in_ t13 t14 t15 =
 bif decide (t15 < t14) then
 bif decide (0 ≤ t15) then
 bif decide (t15 < (t13.2.length : Int)) then
 bif decide (0 ≤ (t13.2.getD (Int.toNat t15) 0)) then
 bif decide ((t13.2.getD (Int.toNat t15) 0) < (in_.2.length : Int)) then
(impl_cutOut_L0 v t4 (in_.1, (in_.2.set (Int.toNat (t13.2.getD (Int.toNat t15) 0)) 1)) t13 t14 (IntKind.i64.wrap (t15 + 1))).bind fun r => some r
else none
else none
else none
else none
else 
 some (in_.1, in_.2) := Eq.trans (inf_loop_eq (H := H) 75 0 (loopCode Tryz.f75 0) (v, (t4, (in_, (t13, (t14, t15))))) key_impl_cutOut) (by kernel_rfl)
theorem impl_cutOut_eq (v : DSight) (some_ : Bool × List Int) : impl_cutOut v some_ =
 bif decide (0 ≤ (v.2.length : Int)) then
 bif decide ((v.2.length : Int) ≤ lim) then
 bif decide ((v.2.length : Int) ≤ (v.2.length : Int)) then
 bif decide ((v.2.length : Int) ≤ lim) then
(impl_cutOut_L0 v (true, []) (false, (List.replicate (Int.toNat (v.2.length : Int)) (0 : Int))) some_ (some_.2.length : Int) 0).bind fun r =>
(impl_meetOf v (r.1, r.2)).bind fun r1 =>
 some (r1.1, r1.2)
else none
else none
else none
else none := Eq.trans (inf_call_eq (H := H) 75 (v, some_)) (by kernel_rfl)
theorem impl_SightBy_L0_eq (preds : Bool × List (Bool × List DNode)) (p : DProgram) (t4 : DSight) (keys : Bool × List DSaid) (t25 : Int) (t26 : Int) : impl_SightBy_L0 preds p t4 keys t25 t26 =
 bif decide (t26 < t25) then
(impl_Program_stateOf p t26).bind fun r =>
(impl_SightBy_L2 preds p t4 (keys.1, keys.2) t26 (r.1, r.2) t25 t26 preds (preds.2.length : Int) 0).bind fun r1 =>
(impl_SightBy_L0 preds p t4 (r1.1, r1.2) t25 (IntKind.i64.wrap (t26 + 1))).bind fun r => some r
else 
 some (keys.1, keys.2) := Eq.trans (inf_loop_eq (H := H) 177 0 (loopCode Tryz.f177 0) (preds, (p, (t4, (keys, (t25, t26))))) key_impl_SightBy) (by kernel_rfl)
theorem impl_SightBy_L2_eq (preds : Bool × List (Bool × List DNode)) (p : DProgram) (t4 : DSight) (keys : Bool × List DSaid) (no : Int) (s : Bool × List Int) (t25 : Int) (t26 : Int) (t32 : Bool × List (Bool × List DNode)) (t33 : Int) (t34 : Int) : impl_SightBy_L2 preds p t4 keys no s t25 t26 t32 t33 t34 =
 bif decide (t34 < t33) then
 bif decide (0 ≤ t34) then
 bif decide (t34 < (t32.2.length : Int)) then
 bif decide (0 ≤ no) then
 bif decide (no < (keys.2.length : Int)) then
(impl_valueOf p.1 (t32.2.getD (Int.toNat t34) (true, [])) s).bind fun r =>
 bif decide (t34 < 0) then
 none
else 
 bif decide (0 ≤ no) then
 bif decide (no < (keys.2.length : Int)) then
(impl_SightBy_L2 preds p t4 (keys.1, (keys.2.set (Int.toNat no) (bOr .i64 ((keys.2.getD (Int.toNat no) (0, 0)).1) (bShl .i64 (IntKind.i64.wrap r) t34), (keys.2.getD (Int.toNat no) (0, 0)).2))) no s t25 t26 t32 t33 (IntKind.i64.wrap (t34 + 1))).bind fun r => some r
else none
else none
else none
else none
else none
else none
else 
 some (keys.1, keys.2) := Eq.trans (inf_loop_eq (H := H) 177 2 (loopCode Tryz.f177 2) (preds, (p, (t4, (keys, (no, (s, (t25, (t26, (t32, (t33, t34)))))))))) key_impl_SightBy) (by kernel_rfl)
theorem impl_SightBy_eq (p : DProgram) (preds : Bool × List (Bool × List DNode)) : impl_SightBy p preds =
(impl_isSmall p).bind fun r =>
 bif !r then
 some ((true, []), false)
else 
(impl_Program_arePreds p preds 0).bind fun r1 =>
 bif !r1 then
 some ((true, []), false)
else 
(impl_Program_states p).bind fun r2 =>
 bif decide (0 ≤ r2) then
 bif decide (r2 ≤ lim) then
 bif decide (r2 ≤ r2) then
 bif decide (r2 ≤ lim) then
(impl_SightBy_L0 preds p (true, []) (false, (List.replicate (Int.toNat r2) ((0, 0) : DSaid))) ((List.replicate (Int.toNat r2) ((0, 0) : DSaid)).length : Int) 0).bind fun r3 =>
(impl_numbered (r3.1, r3.2)).bind fun r4 =>
 some ((r4.1, r4.2), true)
else none
else none
else none
else none := Eq.trans (inf_call_eq (H := H) 177 (p, preds)) (by kernel_rfl)
theorem impl_SplitBy_eq (p : DProgram) (v : DSight) (t : Bool × List DNode) : impl_SplitBy p v t =
(impl_SightBy p (false, [t])).bind fun r =>
 bif !r.2 then
 some ((true, []), false)
else 
(impl_GoodSight p v).bind fun r1 =>
 bif !r1 then
 some ((true, []), false)
else 
(impl_meetOf v (r.1.1, r.1.2)).bind fun r2 =>
 some ((r2.1, r2.2), true) := Eq.trans (inf_call_eq (H := H) 117 (p, (v, t))) (by kernel_rfl)
theorem impl_cutBy_eq (p : DProgram) (v : DSight) (preds : Bool × List (Bool × List DNode)) (path : Bool × List Int) : impl_cutBy p v preds path =
(impl_deadEnds p v path).bind fun r =>
 bif !r.2 then
 some ((true, []), (0, false))
else 
(impl_statesAlong p v path).bind fun r1 =>
(impl_failsAt (r1.1, r1.2)).bind fun r2 =>
(impl_tryTerms p preds).bind fun r3 =>
 bif decide (0 ≤ (IntKind.i64.wrap (r2 - 1))) then
 bif decide ((IntKind.i64.wrap (r2 - 1)) < (path.2.length : Int)) then
 bif decide (0 ≤ r2) then
 bif decide (r2 < (path.2.length : Int)) then
(impl_stepsOn p v (path.2.getD (Int.toNat (IntKind.i64.wrap (r2 - 1))) 0) (path.2.getD (Int.toNat r2) 0)).bind fun r4 =>
(impl_Program_firstApart p (r3.1, r3.2) (r.1.1, r.1.2) (r4.1, r4.2)).bind fun r5 =>
 bif decide (r5 < 0) then
(impl_cutOut v (r.1.1, r.1.2)).bind fun r6 =>
 some ((r6.1, r6.2), ((-1), true))
else 
 bif decide (0 ≤ r5) then
 bif decide (r5 < (r3.2.length : Int)) then
(impl_SplitBy p v ((r3.2.getD (Int.toNat r5) (true, [])).1, (r3.2.getD (Int.toNat r5) (true, [])).2)).bind fun r7 =>
 some ((r7.1.1, r7.1.2), (r5, true))
else none
else none
else none
else none
else none
else none := Eq.trans (inf_call_eq (H := H) 88 (p, (v, (preds, path)))) (by kernel_rfl)
theorem impl_CutBy_eq (p : DProgram) (v : DSight) (preds : Bool × List (Bool × List DNode)) (path : Bool × List Int) : impl_CutBy p v preds path =
(impl_isClassPath p v path 200).bind fun r =>
 bif !r then
 some ((true, []), (0, false))
else 
(impl_Program_arePreds p preds 0).bind fun r1 =>
 bif !r1 then
 some ((true, []), (0, false))
else 
(impl_cutBy p v preds path).bind fun r2 =>
 some ((r2.1.1, r2.1.2), (r2.2.1, r2.2.2)) := Eq.trans (inf_call_eq (H := H) 41 (p, (v, (preds, path)))) (by kernel_rfl)
theorem laws_eqIntS_L0_eq (a : Bool × List Int) (b : Bool × List Int) (i : Int) : laws_eqIntS_L0 a b i =
 bif decide (i < (a.2.length : Int)) then
 bif decide (0 ≤ i) then
 bif decide (i < (a.2.length : Int)) then
 bif decide (0 ≤ i) then
 bif decide (i < (b.2.length : Int)) then
 bif ((a.2.getD (Int.toNat i) 0) != (b.2.getD (Int.toNat i) 0)) then
 some (.inl false)
else 
(laws_eqIntS_L0 a b (IntKind.i64.wrap (i + 1))).bind fun r => some r
else none
else none
else none
else none
else 
 some (.inr ()) := Eq.trans (inf_loop_eq (H := H) 32 0 (loopCode Tryz.f32 0) (a, (b, i)) key_laws_eqIntS) (by kernel_rfl)
theorem laws_eqIntS_eq (a : Bool × List Int) (b : Bool × List Int) : laws_eqIntS a b =
 bif ((a.2.length : Int) != (b.2.length : Int)) then
 some false
else 
(laws_eqIntS_L0 a b 0).bind fun r =>
 match r with
| .inl y =>
 some y
| .inr z =>
 some true := Eq.trans (inf_call_eq (H := H) 32 (a, b)) (by kernel_rfl)
theorem laws_eqSight_eq (a : DSight) (b : DSight) : laws_eqSight a b =
(laws_eqIntS a b).bind fun r =>
 bif !r then
 some false
else 
 some true := Eq.trans (inf_call_eq (H := H) 17 (a, b)) (by kernel_rfl)
theorem laws_eqNode_eq (a : DNode) (b : DNode) : laws_eqNode a b =
 bif (a.1 != b.1) then
 some false
else 
 bif (a.2 != b.2) then
 some false
else 
 some true := Eq.trans (inf_call_eq (H := H) 97 (a, b)) (by kernel_rfl)
theorem laws_eqNodeS_L0_eq (a : Bool × List DNode) (b : Bool × List DNode) (i : Int) : laws_eqNodeS_L0 a b i =
 bif decide (i < (a.2.length : Int)) then
 bif decide (0 ≤ i) then
 bif decide (i < (a.2.length : Int)) then
 bif decide (0 ≤ i) then
 bif decide (i < (b.2.length : Int)) then
(laws_eqNode (a.2.getD (Int.toNat i) (0, 0)) (b.2.getD (Int.toNat i) (0, 0))).bind fun r =>
 bif !r then
 some (.inl false)
else 
(laws_eqNodeS_L0 a b (IntKind.i64.wrap (i + 1))).bind fun r => some r
else none
else none
else none
else none
else 
 some (.inr ()) := Eq.trans (inf_loop_eq (H := H) 47 0 (loopCode Tryz.f47 0) (a, (b, i)) key_laws_eqNodeS) (by kernel_rfl)
theorem laws_eqNodeS_eq (a : Bool × List DNode) (b : Bool × List DNode) : laws_eqNodeS a b =
 bif ((a.2.length : Int) != (b.2.length : Int)) then
 some false
else 
(laws_eqNodeS_L0 a b 0).bind fun r =>
 match r with
| .inl y =>
 some y
| .inr z =>
 some true := Eq.trans (inf_call_eq (H := H) 47 (a, b)) (by kernel_rfl)
theorem laws_eqChange_eq (a : DChange) (b : DChange) : laws_eqChange a b =
 bif (a.1 != b.1) then
 some false
else 
(laws_eqNodeS a.2 b.2).bind fun r =>
 bif !r then
 some false
else 
 some true := Eq.trans (inf_call_eq (H := H) 260 (a, b)) (by kernel_rfl)
theorem laws_eqChangeS_L0_eq (a : Bool × List DChange) (b : Bool × List DChange) (i : Int) : laws_eqChangeS_L0 a b i =
 bif decide (i < (a.2.length : Int)) then
 bif decide (0 ≤ i) then
 bif decide (i < (a.2.length : Int)) then
 bif decide (0 ≤ i) then
 bif decide (i < (b.2.length : Int)) then
(laws_eqChange (a.2.getD (Int.toNat i) (0, (true, []))) (b.2.getD (Int.toNat i) (0, (true, [])))).bind fun r =>
 bif !r then
 some (.inl false)
else 
(laws_eqChangeS_L0 a b (IntKind.i64.wrap (i + 1))).bind fun r => some r
else none
else none
else none
else none
else 
 some (.inr ()) := Eq.trans (inf_loop_eq (H := H) 182 0 (loopCode Tryz.f182 0) (a, (b, i)) key_laws_eqChangeS) (by kernel_rfl)
theorem laws_eqChangeS_eq (a : Bool × List DChange) (b : Bool × List DChange) : laws_eqChangeS a b =
 bif ((a.2.length : Int) != (b.2.length : Int)) then
 some false
else 
(laws_eqChangeS_L0 a b 0).bind fun r =>
 match r with
| .inl y =>
 some y
| .inr z =>
 some true := Eq.trans (inf_call_eq (H := H) 182 (a, b)) (by kernel_rfl)
theorem laws_eqCommand_eq (a : DCommand) (b : DCommand) : laws_eqCommand a b =
(laws_eqNodeS a.1 b.1).bind fun r =>
 bif !r then
 some false
else 
(laws_eqChangeS a.2 b.2).bind fun r1 =>
 bif !r1 then
 some false
else 
 some true := Eq.trans (inf_call_eq (H := H) 127 (a, b)) (by kernel_rfl)
theorem laws_eqCommandS_L0_eq (a : Bool × List DCommand) (b : Bool × List DCommand) (i : Int) : laws_eqCommandS_L0 a b i =
 bif decide (i < (a.2.length : Int)) then
 bif decide (0 ≤ i) then
 bif decide (i < (a.2.length : Int)) then
 bif decide (0 ≤ i) then
 bif decide (i < (b.2.length : Int)) then
(laws_eqCommand (a.2.getD (Int.toNat i) ((true, []), (true, []))) (b.2.getD (Int.toNat i) ((true, []), (true, [])))).bind fun r =>
 bif !r then
 some (.inl false)
else 
(laws_eqCommandS_L0 a b (IntKind.i64.wrap (i + 1))).bind fun r => some r
else none
else none
else none
else none
else 
 some (.inr ()) := Eq.trans (inf_loop_eq (H := H) 76 0 (loopCode Tryz.f76 0) (a, (b, i)) key_laws_eqCommandS) (by kernel_rfl)
theorem laws_eqCommandS_eq (a : Bool × List DCommand) (b : Bool × List DCommand) : laws_eqCommandS a b =
 bif ((a.2.length : Int) != (b.2.length : Int)) then
 some false
else 
(laws_eqCommandS_L0 a b 0).bind fun r =>
 match r with
| .inl y =>
 some y
| .inr z =>
 some true := Eq.trans (inf_call_eq (H := H) 76 (a, b)) (by kernel_rfl)
theorem laws_eqProgram_eq (a : DProgram) (b : DProgram) : laws_eqProgram a b =
 bif (a.1 != b.1) then
 some false
else 
 bif (a.2.1 != b.2.1) then
 some false
else 
(laws_eqNodeS a.2.2.1 b.2.2.1).bind fun r =>
 bif !r then
 some false
else 
(laws_eqCommandS a.2.2.2 b.2.2.2).bind fun r1 =>
 bif !r1 then
 some false
else 
 some true := Eq.trans (inf_call_eq (H := H) 31 (a, b)) (by kernel_rfl)
theorem laws_eqNodeSS_L0_eq (a : Bool × List (Bool × List DNode)) (b : Bool × List (Bool × List DNode)) (i : Int) : laws_eqNodeSS_L0 a b i =
 bif decide (i < (a.2.length : Int)) then
 bif decide (0 ≤ i) then
 bif decide (i < (a.2.length : Int)) then
 bif decide (0 ≤ i) then
 bif decide (i < (b.2.length : Int)) then
(laws_eqNodeS (a.2.getD (Int.toNat i) (true, [])) (b.2.getD (Int.toNat i) (true, []))).bind fun r =>
 bif !r then
 some (.inl false)
else 
(laws_eqNodeSS_L0 a b (IntKind.i64.wrap (i + 1))).bind fun r => some r
else none
else none
else none
else none
else 
 some (.inr ()) := Eq.trans (inf_loop_eq (H := H) 19 0 (loopCode Tryz.f19 0) (a, (b, i)) key_laws_eqNodeSS) (by kernel_rfl)
theorem laws_eqNodeSS_eq (a : Bool × List (Bool × List DNode)) (b : Bool × List (Bool × List DNode)) : laws_eqNodeSS a b =
 bif ((a.2.length : Int) != (b.2.length : Int)) then
 some false
else 
(laws_eqNodeSS_L0 a b 0).bind fun r =>
 match r with
| .inl y =>
 some y
| .inr z =>
 some true := Eq.trans (inf_call_eq (H := H) 19 (a, b)) (by kernel_rfl)
theorem laws_markNodeS_L0_eq (a : Bool × List DNode) (k_ : Int) (i : Int) : laws_markNodeS_L0 a k_ i =
 bif decide (i < (a.2.length : Int)) then
 bif decide (0 ≤ i) then
 bif decide (i < (a.2.length : Int)) then
 bif decide (0 ≤ i) then
 bif decide (i < ((a.2.set (Int.toNat i) (k_, (a.2.getD (Int.toNat i) (0, 0)).2)).length : Int)) then
(laws_markNodeS_L0 (a.1, ((a.2.set (Int.toNat i) (k_, (a.2.getD (Int.toNat i) (0, 0)).2)).set (Int.toNat i) (((a.2.set (Int.toNat i) (k_, (a.2.getD (Int.toNat i) (0, 0)).2)).getD (Int.toNat i) (0, 0)).1, IntKind.u64.wrap (IntKind.i64.wrap (k_ + 1))))) (IntKind.i64.wrap ((IntKind.i64.wrap (k_ + 1)) + 1)) (IntKind.i64.wrap (i + 1))).bind fun r => some r
else none
else none
else none
else none
else 
 some ((a.1, a.2), k_) := Eq.trans (inf_loop_eq (H := H) 48 0 (loopCode Tryz.f48 0) (a, (k_, i)) key_laws_markNodeS) (by kernel_rfl)
theorem laws_markNodeS_eq (a : Bool × List DNode) (k_ : Int) : laws_markNodeS a k_ =
(laws_markNodeS_L0 (a.1, a.2) k_ 0).bind fun r =>
 some ((r.1.1, r.1.2), r.2) := Eq.trans (inf_call_eq (H := H) 48 (a, k_)) (by kernel_rfl)
theorem laws_markChangeS_L0_eq (a : Bool × List DChange) (k_ : Int) (i : Int) : laws_markChangeS_L0 a k_ i =
 bif decide (i < (a.2.length : Int)) then
 bif decide (0 ≤ i) then
 bif decide (i < (a.2.length : Int)) then
 bif decide (0 ≤ i) then
 bif decide (i < ((a.2.set (Int.toNat i) (k_, (a.2.getD (Int.toNat i) (0, (true, []))).2)).length : Int)) then
(laws_markNodeS ((((a.2.set (Int.toNat i) (k_, (a.2.getD (Int.toNat i) (0, (true, []))).2)).getD (Int.toNat i) (0, (true, []))).2).1, (((a.2.set (Int.toNat i) (k_, (a.2.getD (Int.toNat i) (0, (true, []))).2)).getD (Int.toNat i) (0, (true, []))).2).2) (IntKind.i64.wrap (k_ + 1))).bind fun r =>
(laws_markChangeS_L0 (a.1, ((a.2.set (Int.toNat i) (k_, (a.2.getD (Int.toNat i) (0, (true, []))).2)).set (Int.toNat i) (((a.2.set (Int.toNat i) (k_, (a.2.getD (Int.toNat i) (0, (true, []))).2)).getD (Int.toNat i) (0, (true, []))).1, (r.1.1, r.1.2)))) r.2 (IntKind.i64.wrap (i + 1))).bind fun r => some r
else none
else none
else none
else none
else 
 some ((a.1, a.2), k_) := Eq.trans (inf_loop_eq (H := H) 128 0 (loopCode Tryz.f128 0) (a, (k_, i)) key_laws_markChangeS) (by kernel_rfl)
theorem laws_markChangeS_eq (a : Bool × List DChange) (k_ : Int) : laws_markChangeS a k_ =
(laws_markChangeS_L0 (a.1, a.2) k_ 0).bind fun r =>
 some ((r.1.1, r.1.2), r.2) := Eq.trans (inf_call_eq (H := H) 128 (a, k_)) (by kernel_rfl)
theorem laws_markCommandS_L0_eq (a : Bool × List DCommand) (k_ : Int) (i : Int) : laws_markCommandS_L0 a k_ i =
 bif decide (i < (a.2.length : Int)) then
 bif decide (0 ≤ i) then
 bif decide (i < (a.2.length : Int)) then
(laws_markNodeS (((a.2.getD (Int.toNat i) ((true, []), (true, []))).1).1, ((a.2.getD (Int.toNat i) ((true, []), (true, []))).1).2) k_).bind fun r =>
 bif decide (0 ≤ i) then
 bif decide (i < (a.2.length : Int)) then
(laws_markChangeS ((((a.2.set (Int.toNat i) ((r.1.1, r.1.2), (a.2.getD (Int.toNat i) ((true, []), (true, []))).2)).getD (Int.toNat i) ((true, []), (true, []))).2).1, (((a.2.set (Int.toNat i) ((r.1.1, r.1.2), (a.2.getD (Int.toNat i) ((true, []), (true, []))).2)).getD (Int.toNat i) ((true, []), (true, []))).2).2) r.2).bind fun r1 =>
(laws_markCommandS_L0 (a.1, ((a.2.set (Int.toNat i) ((r.1.1, r.1.2), (a.2.getD (Int.toNat i) ((true, []), (true, []))).2)).set (Int.toNat i) (((a.2.set (Int.toNat i) ((r.1.1, r.1.2), (a.2.getD (Int.toNat i) ((true, []), (true, []))).2)).getD (Int.toNat i) ((true, []), (true, []))).1, (r1.1.1, r1.1.2)))) r1.2 (IntKind.i64.wrap (i + 1))).bind fun r => some r
else none
else none
else none
else none
else 
 some ((a.1, a.2), k_) := Eq.trans (inf_loop_eq (H := H) 77 0 (loopCode Tryz.f77 0) (a, (k_, i)) key_laws_markCommandS) (by kernel_rfl)
theorem laws_markCommandS_eq (a : Bool × List DCommand) (k_ : Int) : laws_markCommandS a k_ =
(laws_markCommandS_L0 (a.1, a.2) k_ 0).bind fun r =>
 some ((r.1.1, r.1.2), r.2) := Eq.trans (inf_call_eq (H := H) 77 (a, k_)) (by kernel_rfl)
theorem laws_markProgram_eq (a0_0 : Int) (a0_1 : Int) (a0_2 : Bool × List DNode) (a0_3 : Bool × List DCommand) (k_ : Int) : laws_markProgram a0_0 a0_1 a0_2 a0_3 k_ =
(laws_markNodeS (a0_2.1, a0_2.2) k_).bind fun r =>
(laws_markCommandS (a0_3.1, a0_3.2) r.2).bind fun r1 =>
 some ((r.1.1, r.1.2), ((r1.1.1, r1.1.2), r1.2)) := Eq.trans (inf_call_eq (H := H) 33 (a0_0, (a0_1, (a0_2, (a0_3, k_))))) (by kernel_rfl)
theorem laws_markIntS_L0_eq (a : Bool × List Int) (k_ : Int) (i : Int) : laws_markIntS_L0 a k_ i =
 bif decide (i < (a.2.length : Int)) then
 bif decide (0 ≤ i) then
 bif decide (i < (a.2.length : Int)) then
(laws_markIntS_L0 (a.1, (a.2.set (Int.toNat i) k_)) (IntKind.i64.wrap (k_ + 1)) (IntKind.i64.wrap (i + 1))).bind fun r => some r
else none
else none
else 
 some ((a.1, a.2), k_) := Eq.trans (inf_loop_eq (H := H) 34 0 (loopCode Tryz.f34 0) (a, (k_, i)) key_laws_markIntS) (by kernel_rfl)
theorem laws_markIntS_eq (a : Bool × List Int) (k_ : Int) : laws_markIntS a k_ =
(laws_markIntS_L0 (a.1, a.2) k_ 0).bind fun r =>
 some ((r.1.1, r.1.2), r.2) := Eq.trans (inf_call_eq (H := H) 34 (a, k_)) (by kernel_rfl)
theorem laws_markSight_eq (a : Bool × List Int) (k_ : Int) : laws_markSight a k_ =
(laws_markIntS (a.1, a.2) k_).bind fun r =>
 some ((r.1.1, r.1.2), r.2) := Eq.trans (inf_call_eq (H := H) 22 (a, k_)) (by kernel_rfl)
theorem laws_markNodeSS_L0_eq (a : Bool × List (Bool × List DNode)) (k_ : Int) (i : Int) : laws_markNodeSS_L0 a k_ i =
 bif decide (i < (a.2.length : Int)) then
 bif decide (0 ≤ i) then
 bif decide (i < (a.2.length : Int)) then
(laws_markNodeS ((a.2.getD (Int.toNat i) (true, [])).1, (a.2.getD (Int.toNat i) (true, [])).2) k_).bind fun r =>
(laws_markNodeSS_L0 (a.1, (a.2.set (Int.toNat i) (r.1.1, r.1.2))) r.2 (IntKind.i64.wrap (i + 1))).bind fun r => some r
else none
else none
else 
 some ((a.1, a.2), k_) := Eq.trans (inf_loop_eq (H := H) 21 0 (loopCode Tryz.f21 0) (a, (k_, i)) key_laws_markNodeSS) (by kernel_rfl)
theorem laws_markNodeSS_eq (a : Bool × List (Bool × List DNode)) (k_ : Int) : laws_markNodeSS a k_ =
(laws_markNodeSS_L0 (a.1, a.2) k_ 0).bind fun r =>
 some ((r.1.1, r.1.2), r.2) := Eq.trans (inf_call_eq (H := H) 21 (a, k_)) (by kernel_rfl)
theorem laws_heldIntS_L0_eq (a : Bool × List Int) (k_ : Int) (i : Int) : laws_heldIntS_L0 a k_ i =
 bif decide (i < (a.2.length : Int)) then
 bif decide (0 ≤ i) then
 bif decide (i < (a.2.length : Int)) then
 bif ((a.2.getD (Int.toNat i) 0) != k_) then
 some (.inl (-1))
else 
(laws_heldIntS_L0 a (IntKind.i64.wrap (k_ + 1)) (IntKind.i64.wrap (i + 1))).bind fun r => some r
else none
else none
else 
 some (.inr k_) := Eq.trans (inf_loop_eq (H := H) 39 0 (loopCode Tryz.f39 0) (a, (k_, i)) key_laws_heldIntS) (by kernel_rfl)
theorem laws_heldIntS_eq (a : Bool × List Int) (k_ : Int) : laws_heldIntS a k_ =
(laws_heldIntS_L0 a k_ 0).bind fun r =>
 match r with
| .inl y =>
 some y
| .inr z =>
 some z := Eq.trans (inf_call_eq (H := H) 39 (a, k_)) (by kernel_rfl)
theorem laws_heldSight_eq (a : DSight) (k_ : Int) : laws_heldSight a k_ =
(laws_heldIntS a k_).bind fun r =>
 bif decide (r < 0) then
 some (-1)
else 
 some r := Eq.trans (inf_call_eq (H := H) 23 (a, k_)) (by kernel_rfl)
theorem laws_FnExactCutBy_eq (aP : DProgram) (aV : DSight) (aPreds : Bool × List (Bool × List DNode)) (aPath : Bool × List Int) : laws_FnExactCutBy aP aV aPreds aPath =
 bif decide ((aPath.2.length : Int) > 1048576) then
 some true
else 
(laws_szProgram aP 1048576).bind fun r =>
 bif decide (r < 0) then
 some true
else 
(laws_szSight aV r).bind fun r1 =>
 bif decide (r1 < 0) then
 some true
else 
(laws_szNodeSS aPreds r1).bind fun r2 =>
 bif decide (r2 < 0) then
 some true
else 
(laws_toProgram aP).bind fun r3 =>
(laws_toSight aV).bind fun r4 =>
(laws_toNodeSS aPreds).bind fun r5 =>
(laws_toIntS aPath).bind fun r6 =>
(spec_CutBy (r3.1, (r3.2.1, ((r3.2.2.1.1, r3.2.2.1.2), (r3.2.2.2.1, r3.2.2.2.2)))) (r4.1, r4.2) (r5.1, r5.2) (r6.1, r6.2)).bind fun r7 =>
(laws_toProgram aP).bind fun r8 =>
(laws_toSight aV).bind fun r9 =>
(laws_toNodeSS aPreds).bind fun r10 =>
(laws_toIntS aPath).bind fun r11 =>
(impl_CutBy (r8.1, (r8.2.1, ((r8.2.2.1.1, r8.2.2.1.2), (r8.2.2.2.1, r8.2.2.2.2)))) (r9.1, r9.2) (r10.1, r10.2) (r11.1, r11.2)).bind fun r12 =>
(laws_eqSight (r12.1.1, r12.1.2) (r7.1.1, r7.1.2)).bind fun r13 =>
 bif !r13 then
 some false
else 
 bif (r12.2.1 != r7.2.1) then
 some false
else 
 bif !(r12.2.2 == r7.2.2) then
 some false
else 
(laws_toProgram aP).bind fun r14 =>
(laws_eqProgram (r8.1, (r8.2.1, ((r8.2.2.1.1, r8.2.2.1.2), (r8.2.2.2.1, r8.2.2.2.2)))) (r14.1, (r14.2.1, ((r14.2.2.1.1, r14.2.2.1.2), (r14.2.2.2.1, r14.2.2.2.2))))).bind fun r15 =>
 bif !r15 then
 some false
else 
(laws_toSight aV).bind fun r16 =>
(laws_eqSight (r9.1, r9.2) (r16.1, r16.2)).bind fun r17 =>
 bif !r17 then
 some false
else 
(laws_toNodeSS aPreds).bind fun r18 =>
(laws_eqNodeSS (r10.1, r10.2) (r18.1, r18.2)).bind fun r19 =>
 bif !r19 then
 some false
else 
(laws_toIntS aPath).bind fun r20 =>
(laws_eqIntS (r11.1, r11.2) (r20.1, r20.2)).bind fun r21 =>
 bif !r21 then
 some false
else 
(laws_markProgram r8.1 r8.2.1 (r8.2.2.1.1, r8.2.2.1.2) (r8.2.2.2.1, r8.2.2.2.2) 1).bind fun r22 =>
(laws_markSight (r9.1, r9.2) r22.2.2).bind fun r23 =>
(laws_markNodeSS (r10.1, r10.2) r23.2).bind fun r24 =>
(laws_markIntS (r11.1, r11.2) r24.2).bind fun r25 =>
 bif decide (r25.2 < 0) then
 some false
else 
(laws_eqSight (r12.1.1, r12.1.2) (r7.1.1, r7.1.2)).bind fun r26 =>
 bif !r26 then
 some false
else 
 bif (r12.2.1 != r7.2.1) then
 some false
else 
 bif !(r12.2.2 == r7.2.2) then
 some false
else 
(laws_markSight (r12.1.1, r12.1.2) 1).bind fun r27 =>
(laws_heldSight (r27.1.1, r27.1.2) 1).bind fun r28 =>
 bif decide (r28 < 0) then
 some false
else 
 bif (r28 != r27.2) then
 some false
else 
(laws_toProgram aP).bind fun r29 =>
(laws_toSight aV).bind fun r30 =>
(laws_toNodeSS aPreds).bind fun r31 =>
(laws_toIntS aPath).bind fun r32 =>
(impl_CutBy (r29.1, (r29.2.1, ((r29.2.2.1.1, r29.2.2.1.2), (r29.2.2.2.1, r29.2.2.2.2)))) (r30.1, r30.2) (r31.1, r31.2) (r32.1, r32.2)).bind fun r33 =>
(laws_eqSight (r33.1.1, r33.1.2) (r7.1.1, r7.1.2)).bind fun r34 =>
 bif !r34 then
 some false
else 
 bif (r33.2.1 != r7.2.1) then
 some false
else 
 bif !(r33.2.2 == r7.2.2) then
 some false
else 
(laws_heldSight (r27.1.1, r27.1.2) 1).bind fun r35 =>
 bif decide (r35 < 0) then
 some false
else 
 bif (r35 != r27.2) then
 some false
else 
 some true := Eq.trans (inf_call_eq (H := H) 7 (aP, (aV, (aPreds, aPath)))) (by kernel_rfl)
theorem fit : Fit Tryz.prog H := fit_of (exts := extsL) (tys := tysL) (cells := cellsL) (keys := keysL) (mtys := mtysL) rfl rfl rfl rfl rfl (by kernel_rfl) (by kernel_rfl) (by kernel_rfl) ⟨⟨Tryz.func42, by kernel_rfl, by kernel_rfl⟩, ⟨Tryz.func258, by kernel_rfl, by kernel_rfl⟩, ⟨Tryz.func178, by kernel_rfl, by kernel_rfl⟩, ⟨Tryz.func120, by kernel_rfl, by kernel_rfl⟩, ⟨Tryz.func69, by kernel_rfl, by kernel_rfl⟩, ⟨Tryz.func24, by kernel_rfl, by kernel_rfl⟩, ⟨Tryz.func70, by kernel_rfl, by kernel_rfl⟩, ⟨Tryz.func25, by kernel_rfl, by kernel_rfl⟩, ⟨Tryz.func12, by kernel_rfl, by kernel_rfl⟩, ⟨Tryz.func94, by kernel_rfl, by kernel_rfl⟩, ⟨Tryz.func44, by kernel_rfl, by kernel_rfl⟩, ⟨Tryz.func259, by kernel_rfl, by kernel_rfl⟩, ⟨Tryz.func180, by kernel_rfl, by kernel_rfl⟩, ⟨Tryz.func124, by kernel_rfl, by kernel_rfl⟩, ⟨Tryz.func73, by kernel_rfl, by kernel_rfl⟩, ⟨Tryz.func27, by kernel_rfl, by kernel_rfl⟩, ⟨Tryz.func29, by kernel_rfl, by kernel_rfl⟩, ⟨Tryz.func28, by kernel_rfl, by kernel_rfl⟩, ⟨Tryz.func15, by kernel_rfl, by kernel_rfl⟩, ⟨Tryz.func102, by kernel_rfl, by kernel_rfl⟩, ⟨Tryz.func242, by kernel_rfl, by kernel_rfl⟩, ⟨Tryz.func243, by kernel_rfl, by kernel_rfl⟩, ⟨Tryz.func296, by kernel_rfl, by kernel_rfl⟩, ⟨Tryz.func288, by kernel_rfl, by kernel_rfl⟩, ⟨Tryz.func244, by kernel_rfl, by kernel_rfl⟩, ⟨Tryz.func171, by kernel_rfl, by kernel_rfl⟩, ⟨Tryz.func108, by kernel_rfl, by kernel_rfl⟩, ⟨Tryz.func239, by kernel_rfl, by kernel_rfl⟩, ⟨Tryz.func168, by kernel_rfl, by kernel_rfl⟩, ⟨Tryz.func106, by kernel_rfl, by kernel_rfl⟩, ⟨Tryz.func134, by kernel_rfl, by kernel_rfl⟩, ⟨Tryz.func129, by kernel_rfl, by kernel_rfl⟩, ⟨Tryz.func165, by kernel_rfl, by kernel_rfl⟩, ⟨Tryz.func183, by kernel_rfl, by kernel_rfl⟩, ⟨Tryz.func130, by kernel_rfl, by kernel_rfl⟩, ⟨Tryz.func179, by kernel_rfl, by kernel_rfl⟩, ⟨Tryz.func185, by kernel_rfl, by kernel_rfl⟩, ⟨Tryz.func298, by kernel_rfl, by kernel_rfl⟩, ⟨Tryz.func348, by kernel_rfl, by kernel_rfl⟩, ⟨Tryz.func333, by kernel_rfl, by kernel_rfl⟩, ⟨Tryz.func334, by kernel_rfl, by kernel_rfl⟩, ⟨Tryz.func335, by kernel_rfl, by kernel_rfl⟩, ⟨Tryz.func336, by kernel_rfl, by kernel_rfl⟩, ⟨Tryz.func297, by kernel_rfl, by kernel_rfl⟩, ⟨Tryz.func261, by kernel_rfl, by kernel_rfl⟩, ⟨Tryz.func184, by kernel_rfl, by kernel_rfl⟩, ⟨Tryz.func131, by kernel_rfl, by kernel_rfl⟩, ⟨Tryz.func219, by kernel_rfl, by kernel_rfl⟩, ⟨Tryz.func221, by kernel_rfl, by kernel_rfl⟩, ⟨Tryz.func220, by kernel_rfl, by kernel_rfl⟩, ⟨Tryz.func186, by kernel_rfl, by kernel_rfl⟩, ⟨Tryz.func155, by kernel_rfl, by kernel_rfl⟩, ⟨Tryz.func132, by kernel_rfl, by kernel_rfl⟩, ⟨Tryz.func79, by kernel_rfl, by kernel_rfl⟩, ⟨Tryz.func81, by kernel_rfl, by kernel_rfl⟩, ⟨Tryz.func121, by kernel_rfl, by kernel_rfl⟩, ⟨Tryz.func71, by kernel_rfl, by kernel_rfl⟩, ⟨Tryz.func60, by kernel_rfl, by kernel_rfl⟩, ⟨Tryz.func263, by kernel_rfl, by kernel_rfl⟩, ⟨Tryz.func195, by kernel_rfl, by kernel_rfl⟩, ⟨Tryz.func301, by kernel_rfl, by kernel_rfl⟩, ⟨Tryz.func302, by kernel_rfl, by kernel_rfl⟩, ⟨Tryz.func264, by kernel_rfl, by kernel_rfl⟩, ⟨Tryz.func196, by kernel_rfl, by kernel_rfl⟩, ⟨Tryz.func139, by kernel_rfl, by kernel_rfl⟩, ⟨Tryz.func198, by kernel_rfl, by kernel_rfl⟩, ⟨Tryz.func151, by kernel_rfl, by kernel_rfl⟩, ⟨Tryz.func122, by kernel_rfl, by kernel_rfl⟩, ⟨Tryz.func141, by kernel_rfl, by kernel_rfl⟩, ⟨Tryz.func265, by kernel_rfl, by kernel_rfl⟩, ⟨Tryz.func154, by kernel_rfl, by kernel_rfl⟩, ⟨Tryz.func197, by kernel_rfl, by kernel_rfl⟩, ⟨Tryz.func140, by kernel_rfl, by kernel_rfl⟩, ⟨Tryz.func123, by kernel_rfl, by kernel_rfl⟩, ⟨Tryz.func72, by kernel_rfl, by kernel_rfl⟩, ⟨Tryz.func90, by kernel_rfl, by kernel_rfl⟩, ⟨Tryz.func86, by kernel_rfl, by kernel_rfl⟩, ⟨Tryz.func40, by kernel_rfl, by kernel_rfl⟩, ⟨Tryz.func245, by kernel_rfl, by kernel_rfl⟩, ⟨Tryz.func246, by kernel_rfl, by kernel_rfl⟩, ⟨Tryz.func292, by kernel_rfl, by kernel_rfl⟩, ⟨Tryz.func273, by kernel_rfl, by kernel_rfl⟩, ⟨Tryz.func328, by kernel_rfl, by kernel_rfl⟩, ⟨Tryz.func293, by kernel_rfl, by kernel_rfl⟩, ⟨Tryz.func294, by kernel_rfl, by kernel_rfl⟩, ⟨Tryz.func193, by kernel_rfl, by kernel_rfl⟩, ⟨Tryz.func144, by kernel_rfl, by kernel_rfl⟩, ⟨Tryz.func255, by kernel_rfl, by kernel_rfl⟩, ⟨Tryz.func256, by kernel_rfl, by kernel_rfl⟩, ⟨Tryz.func176, by kernel_rfl, by kernel_rfl⟩, ⟨Tryz.func114, by kernel_rfl, by kernel_rfl⟩, ⟨Tryz.func249, by kernel_rfl, by kernel_rfl⟩, ⟨Tryz.func248, by kernel_rfl, by kernel_rfl⟩, ⟨Tryz.func289, by kernel_rfl, by kernel_rfl⟩, ⟨Tryz.func247, by kernel_rfl, by kernel_rfl⟩, ⟨Tryz.func172, by kernel_rfl, by kernel_rfl⟩, ⟨Tryz.func110, by kernel_rfl, by kernel_rfl⟩, ⟨Tryz.func116, by kernel_rfl, by kernel_rfl⟩, ⟨Tryz.func199, by kernel_rfl, by kernel_rfl⟩, ⟨Tryz.func142, by kernel_rfl, by kernel_rfl⟩, ⟨Tryz.func200, by kernel_rfl, by kernel_rfl⟩, ⟨Tryz.func143, by kernel_rfl, by kernel_rfl⟩, ⟨Tryz.func145, by kernel_rfl, by kernel_rfl⟩, ⟨Tryz.func193, by kernel_rfl, by kernel_rfl⟩, ⟨Tryz.func144, by kernel_rfl, by kernel_rfl⟩, ⟨Tryz.func87, by kernel_rfl, by kernel_rfl⟩, ⟨Tryz.func115, by kernel_rfl, by kernel_rfl⟩, ⟨Tryz.func175, by kernel_rfl, by kernel_rfl⟩, ⟨Tryz.func112, by kernel_rfl, by kernel_rfl⟩, ⟨Tryz.func64, by kernel_rfl, by kernel_rfl⟩, ⟨Tryz.func226, by kernel_rfl, by kernel_rfl⟩, ⟨Tryz.func346, by kernel_rfl, by kernel_rfl⟩, ⟨Tryz.func347, by kernel_rfl, by kernel_rfl⟩, ⟨Tryz.func329, by kernel_rfl, by kernel_rfl⟩, ⟨Tryz.func330, by kernel_rfl, by kernel_rfl⟩, ⟨Tryz.func331, by kernel_rfl, by kernel_rfl⟩, ⟨Tryz.func332, by kernel_rfl, by kernel_rfl⟩, ⟨Tryz.func295, by kernel_rfl, by kernel_rfl⟩, ⟨Tryz.func257, by kernel_rfl, by kernel_rfl⟩, ⟨Tryz.func225, by kernel_rfl, by kernel_rfl⟩, ⟨Tryz.func307, by kernel_rfl, by kernel_rfl⟩, ⟨Tryz.func270, by kernel_rfl, by kernel_rfl⟩, ⟨Tryz.func269, by kernel_rfl, by kernel_rfl⟩, ⟨Tryz.func253, by kernel_rfl, by kernel_rfl⟩, ⟨Tryz.func254, by kernel_rfl, by kernel_rfl⟩, ⟨Tryz.func214, by kernel_rfl, by kernel_rfl⟩, ⟨Tryz.func189, by kernel_rfl, by kernel_rfl⟩, ⟨Tryz.func161, by kernel_rfl, by kernel_rfl⟩, ⟨Tryz.func203, by kernel_rfl, by kernel_rfl⟩, ⟨Tryz.func204, by kernel_rfl, by kernel_rfl⟩, ⟨Tryz.func193, by kernel_rfl, by kernel_rfl⟩, ⟨Tryz.func190, by kernel_rfl, by kernel_rfl⟩, ⟨Tryz.func138, by kernel_rfl, by kernel_rfl⟩, ⟨Tryz.func147, by kernel_rfl, by kernel_rfl⟩, ⟨Tryz.func202, by kernel_rfl, by kernel_rfl⟩, ⟨Tryz.func201, by kernel_rfl, by kernel_rfl⟩, ⟨Tryz.func146, by kernel_rfl, by kernel_rfl⟩, ⟨Tryz.func125, by kernel_rfl, by kernel_rfl⟩, ⟨Tryz.func207, by kernel_rfl, by kernel_rfl⟩, ⟨Tryz.func206, by kernel_rfl, by kernel_rfl⟩, ⟨Tryz.func175, by kernel_rfl, by kernel_rfl⟩, ⟨Tryz.func112, by kernel_rfl, by kernel_rfl⟩, ⟨Tryz.func208, by kernel_rfl, by kernel_rfl⟩, ⟨Tryz.func205, by kernel_rfl, by kernel_rfl⟩, ⟨Tryz.func303, by kernel_rfl, by kernel_rfl⟩, ⟨Tryz.func175, by kernel_rfl, by kernel_rfl⟩, ⟨Tryz.func112, by kernel_rfl, by kernel_rfl⟩, ⟨Tryz.func304, by kernel_rfl, by kernel_rfl⟩, ⟨Tryz.func266, by kernel_rfl, by kernel_rfl⟩, ⟨Tryz.func209, by kernel_rfl, by kernel_rfl⟩, ⟨Tryz.func148, by kernel_rfl, by kernel_rfl⟩, ⟨Tryz.func212, by kernel_rfl, by kernel_rfl⟩, ⟨Tryz.func215, by kernel_rfl, by kernel_rfl⟩, ⟨Tryz.func193, by kernel_rfl, by kernel_rfl⟩, ⟨Tryz.func144, by kernel_rfl, by kernel_rfl⟩, ⟨Tryz.func213, by kernel_rfl, by kernel_rfl⟩, ⟨Tryz.func193, by kernel_rfl, by kernel_rfl⟩, ⟨Tryz.func190, by kernel_rfl, by kernel_rfl⟩, ⟨Tryz.func150, by kernel_rfl, by kernel_rfl⟩, ⟨Tryz.func305, by kernel_rfl, by kernel_rfl⟩, ⟨Tryz.func267, by kernel_rfl, by kernel_rfl⟩, ⟨Tryz.func306, by kernel_rfl, by kernel_rfl⟩, ⟨Tryz.func193, by kernel_rfl, by kernel_rfl⟩, ⟨Tryz.func144, by kernel_rfl, by kernel_rfl⟩, ⟨Tryz.func268, by kernel_rfl, by kernel_rfl⟩, ⟨Tryz.func211, by kernel_rfl, by kernel_rfl⟩, ⟨Tryz.func210, by kernel_rfl, by kernel_rfl⟩, ⟨Tryz.func175, by kernel_rfl, by kernel_rfl⟩, ⟨Tryz.func149, by kernel_rfl, by kernel_rfl⟩, ⟨Tryz.func181, by kernel_rfl, by kernel_rfl⟩, ⟨Tryz.func126, by kernel_rfl, by kernel_rfl⟩, ⟨Tryz.func75, by kernel_rfl, by kernel_rfl⟩, ⟨Tryz.func177, by kernel_rfl, by kernel_rfl⟩, ⟨Tryz.func117, by kernel_rfl, by kernel_rfl⟩, ⟨Tryz.func88, by kernel_rfl, by kernel_rfl⟩, ⟨Tryz.func41, by kernel_rfl, by kernel_rfl⟩, ⟨Tryz.func32, by kernel_rfl, by kernel_rfl⟩, ⟨Tryz.func17, by kernel_rfl, by kernel_rfl⟩, ⟨Tryz.func97, by kernel_rfl, by kernel_rfl⟩, ⟨Tryz.func47, by kernel_rfl, by kernel_rfl⟩, ⟨Tryz.func260, by kernel_rfl, by kernel_rfl⟩, ⟨Tryz.func182, by kernel_rfl, by kernel_rfl⟩, ⟨Tryz.func127, by kernel_rfl, by kernel_rfl⟩, ⟨Tryz.func76, by kernel_rfl, by kernel_rfl⟩, ⟨Tryz.func31, by kernel_rfl, by kernel_rfl⟩, ⟨Tryz.func19, by kernel_rfl, by kernel_rfl⟩, ⟨Tryz.func48, by kernel_rfl, by kernel_rfl⟩, ⟨Tryz.func128, by kernel_rfl, by kernel_rfl⟩, ⟨Tryz.func77, by kernel_rfl, by kernel_rfl⟩, ⟨Tryz.func33, by kernel_rfl, by kernel_rfl⟩, ⟨Tryz.func34, by kernel_rfl, by kernel_rfl⟩, ⟨Tryz.func22, by kernel_rfl, by kernel_rfl⟩, ⟨Tryz.func21, by kernel_rfl, by kernel_rfl⟩, ⟨Tryz.func39, by kernel_rfl, by kernel_rfl⟩, ⟨Tryz.func23, by kernel_rfl, by kernel_rfl⟩, ⟨Tryz.func7, by kernel_rfl, by kernel_rfl⟩, trivial⟩ trivial (by kernel_rfl)
theorem nats : NatOk Tryz.prog H := nat_of (keys := keysL) rfl ⟨.plain rfl, .plain rfl, .plain rfl, .plain rfl, .plain rfl, .plain rfl, .plain rfl, .plain rfl, .plain rfl, .plain rfl, .plain rfl, .plain rfl, .plain rfl, .plain rfl, .plain rfl, .plain rfl, .plain rfl, .plain rfl, .plain rfl, .plain rfl, .plain rfl, .plain rfl, .plain rfl, .plain rfl, .plain rfl, .plain rfl, .plain rfl, .plain rfl, .plain rfl, .plain rfl, .plain rfl, .plain rfl, .plain rfl, .plain rfl, .plain rfl, .plain rfl, .plain rfl, .plain rfl, .plain rfl, .plain rfl, .plain rfl, .plain rfl, .plain rfl, .plain rfl, .plain rfl, .plain rfl, .plain rfl, .plain rfl, .plain rfl, .plain rfl, .plain rfl, .plain rfl, .plain rfl, .plain rfl, .plain rfl, .plain rfl, .plain rfl, .plain rfl, .plain rfl, .plain rfl, .plain rfl, .plain rfl, .plain rfl, .plain rfl, .plain rfl, .plain rfl, .plain rfl, .plain rfl, .plain rfl, .plain rfl, .plain rfl, .plain rfl, .plain rfl, .plain rfl, .plain rfl, .plain rfl, .plain rfl, .plain rfl, .plain rfl, .plain rfl, .plain rfl, .plain rfl, .plain rfl, .plain rfl, .plain rfl, .plain rfl, .plain rfl, .plain rfl, .plain rfl, .plain rfl, .plain rfl, .plain rfl, .plain rfl, .plain rfl, .plain rfl, .plain rfl, .plain rfl, .plain rfl, .plain rfl, .plain rfl, .plain rfl, .plain rfl, .plain rfl, .plain rfl, .plain rfl, .plain rfl, .plain rfl, .plain rfl, .plain rfl, .plain rfl, .plain rfl, .plain rfl, .plain rfl, .plain rfl, .plain rfl, .plain rfl, .plain rfl, .plain rfl, .plain rfl, .plain rfl, .plain rfl, .plain rfl, .plain rfl, .sort Tryz.sortOk, .compact (by decide) Tryz.compactOk, .plain rfl, .plain rfl, .plain rfl, .plain rfl, .plain rfl, .plain rfl, .plain rfl, .plain rfl, .plain rfl, .plain rfl, .plain rfl, .plain rfl, .plain rfl, .plain rfl, .plain rfl, .plain rfl, .plain rfl, .plain rfl, .plain rfl, .plain rfl, .plain rfl, .plain rfl, .plain rfl, .plain rfl, .plain rfl, .plain rfl, .plain rfl, .plain rfl, .plain rfl, .plain rfl, .plain rfl, .plain rfl, .plain rfl, .plain rfl, .plain rfl, .plain rfl, .plain rfl, .plain rfl, .plain rfl, .plain rfl, .plain rfl, .plain rfl, .plain rfl, .plain rfl, .plain rfl, .plain rfl, .plain rfl, .plain rfl, .plain rfl, .plain rfl, .plain rfl, .plain rfl, .plain rfl, .plain rfl, .plain rfl, .plain rfl, .plain rfl, .plain rfl, .plain rfl, .plain rfl, .plain rfl, .plain rfl, .plain rfl, .plain rfl, .plain rfl, .plain rfl, .plain rfl, .plain rfl, .plain rfl, .plain rfl, .plain rfl, trivial⟩
end Go.Proofs.YtpokpgejcendmaaGreat.R
