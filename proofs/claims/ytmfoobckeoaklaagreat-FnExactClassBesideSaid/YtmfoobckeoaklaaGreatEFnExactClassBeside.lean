/- The functions of the law FnExactClassBeside as equations: the other part. -/
import Derived.Test.YtmfoobckeoaklaaGreatEFnExactClassBesideA
import Derived.KernelRfl
set_option linter.unusedVariables false
namespace Go.Proofs.YtmfoobckeoaklaaGreat.R
open Go.Rf Go.Proofs
theorem impl_evalNow_L0_eq (letter : Int) (next : Int) (out : Bool × List Bool) (operands : Bool × List (Bool × List Int)) (list : Bool × List Int) (t18 : Bool × List DSaid) (t19 : Int) (t20 : Int) : impl_evalNow_L0 letter next out operands list t18 t19 t20 =
 bif decide (t20 < t19) then
 bif decide (0 ≤ t20) then
 bif decide (t20 < (t18.2.length : Int)) then
 bif (((t18.2.getD (Int.toNat t20) (0, 0)).1) == 1) then
 bif decide (((t18.2.getD (Int.toNat t20) (0, 0)).2) < 0) then
 none
else 
 bif decide (out.2.length + [((bAnd .i64 (bShr .i64 letter ((t18.2.getD (Int.toNat t20) (0, 0)).2)) 1) == 1)].length ≤ lim) then
(impl_evalNow_L0 letter next ((out.1 && false), (out.2 ++ [((bAnd .i64 (bShr .i64 letter ((t18.2.getD (Int.toNat t20) (0, 0)).2)) 1) == 1)])) operands list t18 t19 (IntKind.i64.wrap (t20 + 1))).bind fun r => some r
else none
else 
 bif (((t18.2.getD (Int.toNat t20) (0, 0)).1) == 3) then
 bif decide (0 ≤ t20) then
 bif decide (t20 < (operands.2.length : Int)) then
 bif decide (0 < (((operands.2.getD (Int.toNat t20) (true, [])).2).length : Int)) then
 bif decide (0 ≤ (((operands.2.getD (Int.toNat t20) (true, [])).2).getD 0 0)) then
 bif decide ((((operands.2.getD (Int.toNat t20) (true, [])).2).getD 0 0) < (out.2.length : Int)) then
 bif decide (out.2.length + [!(out.2.getD (Int.toNat (((operands.2.getD (Int.toNat t20) (true, [])).2).getD 0 0)) false)].length ≤ lim) then
(impl_evalNow_L0 letter next ((out.1 && false), (out.2 ++ [!(out.2.getD (Int.toNat (((operands.2.getD (Int.toNat t20) (true, [])).2).getD 0 0)) false)])) operands list t18 t19 (IntKind.i64.wrap (t20 + 1))).bind fun r => some r
else none
else none
else none
else none
else none
else none
else 
 bif (((t18.2.getD (Int.toNat t20) (0, 0)).1) == 4) then
 bif decide (0 ≤ t20) then
 bif decide (t20 < (operands.2.length : Int)) then
 bif decide (0 < (((operands.2.getD (Int.toNat t20) (true, [])).2).length : Int)) then
(impl_assumes list next (((operands.2.getD (Int.toNat t20) (true, [])).2).getD 0 0)).bind fun r =>
 bif decide (out.2.length + [r].length ≤ lim) then
(impl_evalNow_L0 letter next ((out.1 && false), (out.2 ++ [r])) operands list t18 t19 (IntKind.i64.wrap (t20 + 1))).bind fun r => some r
else none
else none
else none
else none
else 
 bif (((t18.2.getD (Int.toNat t20) (0, 0)).1) == 5) then
 bif decide (0 ≤ t20) then
 bif decide (t20 < (operands.2.length : Int)) then
 bif decide (0 < (((operands.2.getD (Int.toNat t20) (true, [])).2).length : Int)) then
 bif decide (0 ≤ (((operands.2.getD (Int.toNat t20) (true, [])).2).getD 0 0)) then
 bif decide ((((operands.2.getD (Int.toNat t20) (true, [])).2).getD 0 0) < (out.2.length : Int)) then
 bif (out.2.getD (Int.toNat (((operands.2.getD (Int.toNat t20) (true, [])).2).getD 0 0)) false) then
 bif decide (0 ≤ t20) then
 bif decide (t20 < (operands.2.length : Int)) then
 bif decide (1 < (((operands.2.getD (Int.toNat t20) (true, [])).2).length : Int)) then
 bif decide (0 ≤ (((operands.2.getD (Int.toNat t20) (true, [])).2).getD 1 0)) then
 bif decide ((((operands.2.getD (Int.toNat t20) (true, [])).2).getD 1 0) < (out.2.length : Int)) then
 bif decide (out.2.length + [(out.2.getD (Int.toNat (((operands.2.getD (Int.toNat t20) (true, [])).2).getD 1 0)) false)].length ≤ lim) then
(impl_evalNow_L0 letter next ((out.1 && false), (out.2 ++ [(out.2.getD (Int.toNat (((operands.2.getD (Int.toNat t20) (true, [])).2).getD 1 0)) false)])) operands list t18 t19 (IntKind.i64.wrap (t20 + 1))).bind fun r => some r
else none
else none
else none
else none
else none
else none
else 
 bif decide (out.2.length + [false].length ≤ lim) then
(impl_evalNow_L0 letter next ((out.1 && false), (out.2 ++ [false])) operands list t18 t19 (IntKind.i64.wrap (t20 + 1))).bind fun r => some r
else none
else none
else none
else none
else none
else none
else 
 bif (((t18.2.getD (Int.toNat t20) (0, 0)).1) == 6) then
 bif decide (0 ≤ t20) then
 bif decide (t20 < (operands.2.length : Int)) then
 bif decide (0 < (((operands.2.getD (Int.toNat t20) (true, [])).2).length : Int)) then
 bif decide (0 ≤ (((operands.2.getD (Int.toNat t20) (true, [])).2).getD 0 0)) then
 bif decide ((((operands.2.getD (Int.toNat t20) (true, [])).2).getD 0 0) < (out.2.length : Int)) then
 bif (out.2.getD (Int.toNat (((operands.2.getD (Int.toNat t20) (true, [])).2).getD 0 0)) false) then
 bif decide (out.2.length + [true].length ≤ lim) then
(impl_evalNow_L0 letter next ((out.1 && false), (out.2 ++ [true])) operands list t18 t19 (IntKind.i64.wrap (t20 + 1))).bind fun r => some r
else none
else 
 bif decide (0 ≤ t20) then
 bif decide (t20 < (operands.2.length : Int)) then
 bif decide (1 < (((operands.2.getD (Int.toNat t20) (true, [])).2).length : Int)) then
 bif decide (0 ≤ (((operands.2.getD (Int.toNat t20) (true, [])).2).getD 1 0)) then
 bif decide ((((operands.2.getD (Int.toNat t20) (true, [])).2).getD 1 0) < (out.2.length : Int)) then
 bif decide (out.2.length + [(out.2.getD (Int.toNat (((operands.2.getD (Int.toNat t20) (true, [])).2).getD 1 0)) false)].length ≤ lim) then
(impl_evalNow_L0 letter next ((out.1 && false), (out.2 ++ [(out.2.getD (Int.toNat (((operands.2.getD (Int.toNat t20) (true, [])).2).getD 1 0)) false)])) operands list t18 t19 (IntKind.i64.wrap (t20 + 1))).bind fun r => some r
else none
else none
else none
else none
else none
else none
else none
else none
else none
else none
else none
else 
 bif (((t18.2.getD (Int.toNat t20) (0, 0)).1) == 7) then
 bif decide (0 ≤ t20) then
 bif decide (t20 < (operands.2.length : Int)) then
 bif decide (1 < (((operands.2.getD (Int.toNat t20) (true, [])).2).length : Int)) then
 bif decide (0 ≤ (((operands.2.getD (Int.toNat t20) (true, [])).2).getD 1 0)) then
 bif decide ((((operands.2.getD (Int.toNat t20) (true, [])).2).getD 1 0) < (out.2.length : Int)) then
 bif (out.2.getD (Int.toNat (((operands.2.getD (Int.toNat t20) (true, [])).2).getD 1 0)) false) then
 bif decide (out.2.length + [true].length ≤ lim) then
(impl_evalNow_L0 letter next ((out.1 && false), (out.2 ++ [true])) operands list t18 t19 (IntKind.i64.wrap (t20 + 1))).bind fun r => some r
else none
else 
 bif decide (0 ≤ t20) then
 bif decide (t20 < (operands.2.length : Int)) then
 bif decide (0 < (((operands.2.getD (Int.toNat t20) (true, [])).2).length : Int)) then
 bif decide (0 ≤ (((operands.2.getD (Int.toNat t20) (true, [])).2).getD 0 0)) then
 bif decide ((((operands.2.getD (Int.toNat t20) (true, [])).2).getD 0 0) < (out.2.length : Int)) then
 bif (out.2.getD (Int.toNat (((operands.2.getD (Int.toNat t20) (true, [])).2).getD 0 0)) false) then
(impl_assumes list next t20).bind fun r1 =>
 bif decide (out.2.length + [r1].length ≤ lim) then
(impl_evalNow_L0 letter next ((out.1 && false), (out.2 ++ [r1])) operands list t18 t19 (IntKind.i64.wrap (t20 + 1))).bind fun r => some r
else none
else 
 bif decide (out.2.length + [false].length ≤ lim) then
(impl_evalNow_L0 letter next ((out.1 && false), (out.2 ++ [false])) operands list t18 t19 (IntKind.i64.wrap (t20 + 1))).bind fun r => some r
else none
else none
else none
else none
else none
else none
else none
else none
else none
else none
else none
else 
 bif (((t18.2.getD (Int.toNat t20) (0, 0)).1) == 8) then
 bif decide (0 ≤ t20) then
 bif decide (t20 < (operands.2.length : Int)) then
 bif decide (1 < (((operands.2.getD (Int.toNat t20) (true, [])).2).length : Int)) then
 bif decide (0 ≤ (((operands.2.getD (Int.toNat t20) (true, [])).2).getD 1 0)) then
 bif decide ((((operands.2.getD (Int.toNat t20) (true, [])).2).getD 1 0) < (out.2.length : Int)) then
 bif (out.2.getD (Int.toNat (((operands.2.getD (Int.toNat t20) (true, [])).2).getD 1 0)) false) then
 bif decide (0 ≤ t20) then
 bif decide (t20 < (operands.2.length : Int)) then
 bif decide (0 < (((operands.2.getD (Int.toNat t20) (true, [])).2).length : Int)) then
 bif decide (0 ≤ (((operands.2.getD (Int.toNat t20) (true, [])).2).getD 0 0)) then
 bif decide ((((operands.2.getD (Int.toNat t20) (true, [])).2).getD 0 0) < (out.2.length : Int)) then
 bif (out.2.getD (Int.toNat (((operands.2.getD (Int.toNat t20) (true, [])).2).getD 0 0)) false) then
 bif decide (out.2.length + [true].length ≤ lim) then
(impl_evalNow_L0 letter next ((out.1 && false), (out.2 ++ [true])) operands list t18 t19 (IntKind.i64.wrap (t20 + 1))).bind fun r => some r
else none
else 
(impl_assumes list next t20).bind fun r2 =>
 bif decide (out.2.length + [r2].length ≤ lim) then
(impl_evalNow_L0 letter next ((out.1 && false), (out.2 ++ [r2])) operands list t18 t19 (IntKind.i64.wrap (t20 + 1))).bind fun r => some r
else none
else none
else none
else none
else none
else none
else 
 bif decide (out.2.length + [false].length ≤ lim) then
(impl_evalNow_L0 letter next ((out.1 && false), (out.2 ++ [false])) operands list t18 t19 (IntKind.i64.wrap (t20 + 1))).bind fun r => some r
else none
else none
else none
else none
else none
else none
else 
 bif decide (out.2.length + [(((t18.2.getD (Int.toNat t20) (0, 0)).2) == 1)].length ≤ lim) then
(impl_evalNow_L0 letter next ((out.1 && false), (out.2 ++ [(((t18.2.getD (Int.toNat t20) (0, 0)).2) == 1)])) operands list t18 t19 (IntKind.i64.wrap (t20 + 1))).bind fun r => some r
else none
else none
else none
else 
 some (out.1, out.2) := Eq.trans (inf_loop_eq (H := H) 214 0 (loopCode Tryz.f214 0) (letter, (next, (out, (operands, (list, (t18, (t19, t20))))))) key_impl_evalNow) (by kernel_rfl)
theorem impl_evalNow_eq (f : Bool × List DSaid) (letter : Int) (next : Int) : impl_evalNow f letter next =
(impl_operandIndexes f).bind fun r =>
(impl_tracked f).bind fun r1 =>
(impl_evalNow_L0 letter next (false, []) (r.1, r.2) (r1.1, r1.2) f (f.2.length : Int) 0).bind fun r2 =>
 some (r2.1, r2.2) := Eq.trans (inf_call_eq (H := H) 214 (f, (letter, next))) (by kernel_rfl)
theorem impl_guessOf_L0_eq (values : Bool × List Bool) (guess : Int) (t16 : Bool × List Int) (t17 : Int) (t18 : Int) : impl_guessOf_L0 values guess t16 t17 t18 =
 bif decide (t18 < t17) then
 bif decide (0 ≤ t18) then
 bif decide (t18 < (t16.2.length : Int)) then
 bif decide (0 ≤ (t16.2.getD (Int.toNat t18) 0)) then
 bif decide ((t16.2.getD (Int.toNat t18) 0) < (values.2.length : Int)) then
 bif (values.2.getD (Int.toNat (t16.2.getD (Int.toNat t18) 0)) false) then
 bif decide (t18 < 0) then
 none
else 
(impl_guessOf_L0 values (bOr .i64 guess (bShl .i64 1 t18)) t16 t17 (IntKind.i64.wrap (t18 + 1))).bind fun r => some r
else 
(impl_guessOf_L0 values guess t16 t17 (IntKind.i64.wrap (t18 + 1))).bind fun r => some r
else none
else none
else none
else none
else 
 some guess := Eq.trans (inf_loop_eq (H := H) 161 0 (loopCode Tryz.f161 0) (values, (guess, (t16, (t17, t18)))) key_impl_guessOf) (by kernel_rfl)
theorem impl_guessOf_eq (f : Bool × List DSaid) (letter : Int) (next : Int) : impl_guessOf f letter next =
(impl_evalNow f letter next).bind fun r =>
(impl_tracked f).bind fun r1 =>
(impl_guessOf_L0 (r.1, r.2) 0 (r1.1, r1.2) (r1.2.length : Int) 0).bind fun r2 =>
 some r2 := Eq.trans (inf_call_eq (H := H) 161 (f, (letter, next))) (by kernel_rfl)
theorem impl_goalsOf_1_eq (guess : Int) (a1 : Bool × List Int) (a2 : Int) (a3 : Bool × List (Bool × List Int)) (a4 : DSaid) : impl_goalsOf_1 guess a1 a2 a3 a4 =
(impl_assumes a1 guess a2).bind fun r =>
 bif decide (0 ≤ a2) then
 bif decide (a2 < (a3.2.length : Int)) then
 bif decide (1 < (((a3.2.getD (Int.toNat a2) (true, [])).2).length : Int)) then
(impl_assumes a1 guess (((a3.2.getD (Int.toNat a2) (true, [])).2).getD 1 0)).bind fun r1 =>
 bif (a4.1 == 7) then
 bif !r then
 some true
else 
 bif r1 then
 some true
else 
 bif (a4.1 == 8) then
 bif r then
 some true
else 
 some (!r1)
else 
 some false
else 
 bif (a4.1 == 8) then
 bif r then
 some true
else 
 some (!r1)
else 
 some false
else none
else none
else none := Eq.trans (inf_call_eq (H := H) 217 (guess, (a1, (a2, (a3, a4))))) (by kernel_rfl)
theorem impl_guessesWith_by_goalsOf_1_L0_eq (holds : (Bool × List Int) × Int × (Bool × List (Bool × List Int)) × DSaid × Unit) (out : Bool × List Int) (t9 : Int) (t10 : Int) : impl_guessesWith_by_goalsOf_1_L0 holds out t9 t10 =
 bif decide (t10 < t9) then
(impl_goalsOf_1 t10 holds.1 holds.2.1 holds.2.2.1 holds.2.2.2.1).bind fun r =>
 bif r then
 bif decide (out.2.length + [t10].length ≤ lim) then
(impl_guessesWith_by_goalsOf_1_L0 holds ((out.1 && false), (out.2 ++ [t10])) t9 (IntKind.i64.wrap (t10 + 1))).bind fun r => some r
else none
else 
(impl_guessesWith_by_goalsOf_1_L0 holds (out.1, out.2) t9 (IntKind.i64.wrap (t10 + 1))).bind fun r => some r
else 
 some (out.1, out.2) := Eq.trans (inf_loop_eq (H := H) 216 0 (loopCode Tryz.f216 0) (holds, (out, (t9, t10))) key_impl_guessesWith_by_goalsOf_1) (by kernel_rfl)
theorem impl_guessesWith_by_goalsOf_1_eq (f : Bool × List DSaid) (holds : (Bool × List Int) × Int × (Bool × List (Bool × List Int)) × DSaid × Unit) : impl_guessesWith_by_goalsOf_1 f holds =
(impl_guesses f).bind fun r =>
(impl_guessesWith_by_goalsOf_1_L0 holds (false, []) r 0).bind fun r1 =>
 some (r1.1, r1.2) := Eq.trans (inf_call_eq (H := H) 216 (f, holds)) (by kernel_rfl)
theorem impl_goalsOf_L0_eq (f : Bool × List DSaid) (out : Bool × List (Bool × List Int)) (operands : Bool × List (Bool × List Int)) (list : Bool × List Int) (t13 : Bool × List DSaid) (t14 : Int) (t15 : Int) : impl_goalsOf_L0 f out operands list t13 t14 t15 =
 bif decide (t15 < t14) then
 bif decide (0 ≤ t15) then
 bif decide (t15 < (t13.2.length : Int)) then
 bif (((t13.2.getD (Int.toNat t15) (0, 0)).1) != 7) then
 bif (((t13.2.getD (Int.toNat t15) (0, 0)).1) != 8) then
(impl_goalsOf_L0 f (out.1, out.2) operands list t13 t14 (IntKind.i64.wrap (t15 + 1))).bind fun r => some r
else 
(impl_guessesWith_by_goalsOf_1 f (list, (t15, (operands, ((t13.2.getD (Int.toNat t15) (0, 0)), ()))))).bind fun r =>
 bif decide (out.2.length + [(r.1, r.2)].length ≤ lim) then
(impl_goalsOf_L0 f ((out.1 && false), (out.2 ++ [(r.1, r.2)])) operands list t13 t14 (IntKind.i64.wrap (t15 + 1))).bind fun r => some r
else none
else 
(impl_guessesWith_by_goalsOf_1 f (list, (t15, (operands, ((t13.2.getD (Int.toNat t15) (0, 0)), ()))))).bind fun r1 =>
 bif decide (out.2.length + [(r1.1, r1.2)].length ≤ lim) then
(impl_goalsOf_L0 f ((out.1 && false), (out.2 ++ [(r1.1, r1.2)])) operands list t13 t14 (IntKind.i64.wrap (t15 + 1))).bind fun r => some r
else none
else none
else none
else 
 some (out.1, out.2) := Eq.trans (inf_loop_eq (H := H) 162 0 (loopCode Tryz.f162 0) (f, (out, (operands, (list, (t13, (t14, t15)))))) key_impl_goalsOf) (by kernel_rfl)
theorem impl_goalsOf_eq (f : Bool × List DSaid) : impl_goalsOf f =
(impl_operandIndexes f).bind fun r =>
(impl_tracked f).bind fun r1 =>
(impl_goalsOf_L0 f (false, []) (r.1, r.2) (r1.1, r1.2) f (f.2.length : Int) 0).bind fun r2 =>
 some (r2.1, r2.2) := Eq.trans (inf_call_eq (H := H) 162 f) (by kernel_rfl)
theorem impl_moved_L0_eq (by_ : Int) (out : Bool × List Int) (t9 : Bool × List Int) (t10 : Int) (t11 : Int) : impl_moved_L0 by_ out t9 t10 t11 =
 bif decide (t11 < t10) then
 bif decide (0 ≤ t11) then
 bif decide (t11 < (t9.2.length : Int)) then
 bif decide (out.2.length + [IntKind.i64.wrap ((t9.2.getD (Int.toNat t11) 0) + by_)].length ≤ lim) then
(impl_moved_L0 by_ ((out.1 && false), (out.2 ++ [IntKind.i64.wrap ((t9.2.getD (Int.toNat t11) 0) + by_)])) t9 t10 (IntKind.i64.wrap (t11 + 1))).bind fun r => some r
else none
else none
else none
else 
 some (out.1, out.2) := Eq.trans (inf_loop_eq (H := H) 163 0 (loopCode Tryz.f163 0) (by_, (out, (t9, (t10, t11)))) key_impl_moved) (by kernel_rfl)
theorem impl_moved_eq (list : Bool × List Int) (by_ : Int) : impl_moved list by_ =
(impl_moved_L0 by_ (false, []) list (list.2.length : Int) 0).bind fun r =>
 some (r.1, r.2) := Eq.trans (inf_call_eq (H := H) 163 (list, by_)) (by kernel_rfl)
theorem impl_Program_where_L0_eq (t : Bool × List DNode) (p : DProgram) (out : Bool × List Int) (t9 : Int) (t10 : Int) : impl_Program_where_L0 t p out t9 t10 =
 bif decide (t10 < t9) then
(impl_Program_stateOf p t10).bind fun r =>
(impl_Program_holds p t (r.1, r.2)).bind fun r1 =>
 bif r1 then
 bif decide (out.2.length + [t10].length ≤ lim) then
(impl_Program_where_L0 t p ((out.1 && false), (out.2 ++ [t10])) t9 (IntKind.i64.wrap (t10 + 1))).bind fun r => some r
else none
else 
(impl_Program_where_L0 t p (out.1, out.2) t9 (IntKind.i64.wrap (t10 + 1))).bind fun r => some r
else 
 some (out.1, out.2) := Eq.trans (inf_loop_eq (H := H) 69 0 (loopCode Tryz.f69 0) (t, (p, (out, (t9, t10)))) key_impl_Program_where) (by kernel_rfl)
theorem impl_Program_where_eq (p : DProgram) (t : Bool × List DNode) : impl_Program_where p t =
(impl_Program_states p).bind fun r =>
(impl_Program_where_L0 t p (false, []) r 0).bind fun r1 =>
 some (r1.1, r1.2) := Eq.trans (inf_call_eq (H := H) 69 (p, t)) (by kernel_rfl)
theorem impl_rooted_1_eq (guess : Int) (a1 : Bool × List Int) (a2 : Bool × List DSaid) (a3 : Bool) : impl_rooted_1 guess a1 a2 a3 =
(impl_assumes a1 guess (IntKind.i64.wrap ((a2.2.length : Int) - 1))).bind fun r =>
 some (r == a3) := Eq.trans (inf_call_eq (H := H) 262 (guess, (a1, (a2, a3)))) (by kernel_rfl)
theorem impl_guessesWith_by_rooted_1_L0_eq (holds : (Bool × List Int) × (Bool × List DSaid) × Bool × Unit) (out : Bool × List Int) (t9 : Int) (t10 : Int) : impl_guessesWith_by_rooted_1_L0 holds out t9 t10 =
 bif decide (t10 < t9) then
(impl_rooted_1 t10 holds.1 holds.2.1 holds.2.2.1).bind fun r =>
 bif r then
 bif decide (out.2.length + [t10].length ≤ lim) then
(impl_guessesWith_by_rooted_1_L0 holds ((out.1 && false), (out.2 ++ [t10])) t9 (IntKind.i64.wrap (t10 + 1))).bind fun r => some r
else none
else 
(impl_guessesWith_by_rooted_1_L0 holds (out.1, out.2) t9 (IntKind.i64.wrap (t10 + 1))).bind fun r => some r
else 
 some (out.1, out.2) := Eq.trans (inf_loop_eq (H := H) 10157 0 (loopCode Tryz.f216 0) (holds, (out, (t9, t10))) key_impl_guessesWith_by_rooted_1) (by kernel_rfl)
theorem impl_guessesWith_by_rooted_1_eq (f : Bool × List DSaid) (holds : (Bool × List Int) × (Bool × List DSaid) × Bool × Unit) : impl_guessesWith_by_rooted_1 f holds =
(impl_guesses f).bind fun r =>
(impl_guessesWith_by_rooted_1_L0 holds (false, []) r 0).bind fun r1 =>
 some (r1.1, r1.2) := Eq.trans (inf_call_eq (H := H) 10157 (f, holds)) (by kernel_rfl)
theorem impl_rooted_eq (f : Bool × List DSaid) (holds : Bool) : impl_rooted f holds =
(impl_tracked f).bind fun r =>
(impl_guessesWith_by_rooted_1 f ((r.1, r.2), (f, (holds, ())))).bind fun r1 =>
 some (r1.1, r1.2) := Eq.trans (inf_call_eq (H := H) 219 (f, holds)) (by kernel_rfl)
theorem impl_Question_againstFrom_L0_eq (q : DQuestion) (out : Bool × List Int) (t9 : Bool × List Int) (t10 : Int) (t11 : Int) : impl_Question_againstFrom_L0 q out t9 t10 t11 =
 bif decide (t11 < t10) then
 bif decide (0 ≤ t11) then
 bif decide (t11 < (t9.2.length : Int)) then
(impl_rooted q.2.2 false).bind fun r =>
(impl_guesses q.2.2).bind fun r1 =>
(impl_moved (r.1, r.2) (IntKind.i64.wrap ((t9.2.getD (Int.toNat t11) 0) * r1))).bind fun r2 =>
 bif decide (out.2.length + r2.2.length ≤ lim) then
(impl_Question_againstFrom_L0 q ((out.1 && r2.2.isEmpty), (out.2 ++ r2.2)) t9 t10 (IntKind.i64.wrap (t11 + 1))).bind fun r => some r
else none
else none
else none
else 
 some (out.1, out.2) := Eq.trans (inf_loop_eq (H := H) 164 0 (loopCode Tryz.f164 0) (q, (out, (t9, (t10, t11)))) key_impl_Question_againstFrom) (by kernel_rfl)
theorem impl_Question_againstFrom_eq (q : DQuestion) (some_ : Bool × List Int) : impl_Question_againstFrom q some_ =
(impl_Question_againstFrom_L0 q (false, []) some_ (some_.2.length : Int) 0).bind fun r =>
 some (r.1, r.2) := Eq.trans (inf_call_eq (H := H) 164 (q, some_)) (by kernel_rfl)
theorem impl_classBeside_L0_eq (q : DQuestion) (v : DSight) (all_ : Int) (many : Int) (next : Bool × List (Bool × List Int)) (goals : Bool × List (Bool × List Int)) (t31 : Int) (t32 : Int) : impl_classBeside_L0 q v all_ many next goals t31 t32 =
 bif decide (t32 < t31) then
(impl_classLetter q v t32).bind fun r =>
(impl_classSteps q.1 v t32).bind fun r1 =>
(impl_classBeside_L2 q v all_ many (next.1, next.2) goals t32 r t31 t32 (r1.1, r1.2) (r1.2.length : Int) 0).bind fun r2 =>
(impl_classBeside_L0 q v all_ many (r2.1, r2.2) goals t31 (IntKind.i64.wrap (t32 + 1))).bind fun r => some r
else 
 some (next.1, next.2) := Eq.trans (inf_loop_eq (H := H) 104 0 (loopCode Tryz.f104 0) (q, (v, (all_, (many, (next, (goals, (t31, t32))))))) key_impl_classBeside) (by kernel_rfl)
theorem impl_classBeside_L2_eq (q : DQuestion) (v : DSight) (all_ : Int) (many : Int) (next : Bool × List (Bool × List Int)) (goals : Bool × List (Bool × List Int)) (class_ : Int) (letter : Int) (t31 : Int) (t32 : Int) (t43 : Bool × List Int) (t44 : Int) (t45 : Int) : impl_classBeside_L2 q v all_ many next goals class_ letter t31 t32 t43 t44 t45 =
 bif decide (t45 < t44) then
 bif decide (0 ≤ t45) then
 bif decide (t45 < (t43.2.length : Int)) then
(impl_classBeside_L4 q v all_ many (next.1, next.2) goals class_ letter (t43.2.getD (Int.toNat t45) 0) t31 t32 t43 t44 t45 many 0).bind fun r =>
(impl_classBeside_L2 q v all_ many (r.1, r.2) goals class_ letter t31 t32 t43 t44 (IntKind.i64.wrap (t45 + 1))).bind fun r => some r
else none
else none
else 
 some (next.1, next.2) := Eq.trans (inf_loop_eq (H := H) 104 2 (loopCode Tryz.f104 2) (q, (v, (all_, (many, (next, (goals, (class_, (letter, (t31, (t32, (t43, (t44, t45)))))))))))) key_impl_classBeside) (by kernel_rfl)
theorem impl_classBeside_L4_eq (q : DQuestion) (v : DSight) (all_ : Int) (many : Int) (next : Bool × List (Bool × List Int)) (goals : Bool × List (Bool × List Int)) (class_ : Int) (letter : Int) (to : Int) (t31 : Int) (t32 : Int) (t43 : Bool × List Int) (t44 : Int) (t45 : Int) (t49 : Int) (t50 : Int) : impl_classBeside_L4 q v all_ many next goals class_ letter to t31 t32 t43 t44 t45 t49 t50 =
 bif decide (t50 < t49) then
(impl_guessOf q.2.2 letter t50).bind fun r =>
 bif decide (0 ≤ (IntKind.i64.wrap ((IntKind.i64.wrap (class_ * many)) + r))) then
 bif decide ((IntKind.i64.wrap ((IntKind.i64.wrap (class_ * many)) + r)) < (next.2.length : Int)) then
 bif decide (((next.2.getD (Int.toNat (IntKind.i64.wrap ((IntKind.i64.wrap (class_ * many)) + r))) (true, [])).2).length + [IntKind.i64.wrap ((IntKind.i64.wrap (to * many)) + t50)].length ≤ lim) then
 bif decide (0 ≤ (IntKind.i64.wrap ((IntKind.i64.wrap (class_ * many)) + r))) then
 bif decide ((IntKind.i64.wrap ((IntKind.i64.wrap (class_ * many)) + r)) < (next.2.length : Int)) then
 bif ((Int.toNat (IntKind.i64.wrap ((IntKind.i64.wrap (class_ * many)) + r))) == (Int.toNat (IntKind.i64.wrap ((IntKind.i64.wrap (class_ * many)) + r)))) then
(impl_classBeside_L4 q v all_ many (next.1, (next.2.set (Int.toNat (IntKind.i64.wrap ((IntKind.i64.wrap (class_ * many)) + r))) ((((next.2.getD (Int.toNat (IntKind.i64.wrap ((IntKind.i64.wrap (class_ * many)) + r))) (true, [])).1) && false), (((next.2.getD (Int.toNat (IntKind.i64.wrap ((IntKind.i64.wrap (class_ * many)) + r))) (true, [])).2) ++ [IntKind.i64.wrap ((IntKind.i64.wrap (to * many)) + t50)])))) goals class_ letter to t31 t32 t43 t44 t45 t49 (IntKind.i64.wrap (t50 + 1))).bind fun r => some r
else none
else none
else none
else none
else none
else none
else 
 some (next.1, next.2) := Eq.trans (inf_loop_eq (H := H) 104 4 (loopCode Tryz.f104 4) (q, (v, (all_, (many, (next, (goals, (class_, (letter, (to, (t31, (t32, (t43, (t44, (t45, (t49, t50))))))))))))))) key_impl_classBeside) (by kernel_rfl)
theorem impl_classBeside_L6_eq (q : DQuestion) (v : DSight) (all_ : Int) (many : Int) (next : Bool × List (Bool × List Int)) (goals : Bool × List (Bool × List Int)) (t81 : Bool × List (Bool × List Int)) (t82 : Int) (t83 : Int) : impl_classBeside_L6 q v all_ many next goals t81 t82 t83 =
 bif decide (t83 < t82) then
 bif decide (0 ≤ t83) then
 bif decide (t83 < (t81.2.length : Int)) then
(impl_classBeside_L8 q v all_ many next (goals.1, goals.2) (t81.2.getD (Int.toNat t83) (true, [])) (false, []) t81 t82 t83 all_ 0).bind fun r =>
 bif decide (goals.2.length + [(r.1, r.2)].length ≤ lim) then
(impl_classBeside_L6 q v all_ many next ((goals.1 && false), (goals.2 ++ [(r.1, r.2)])) t81 t82 (IntKind.i64.wrap (t83 + 1))).bind fun r => some r
else none
else none
else none
else 
 some (goals.1, goals.2) := Eq.trans (inf_loop_eq (H := H) 104 6 (loopCode Tryz.f104 6) (q, (v, (all_, (many, (next, (goals, (t81, (t82, t83)))))))) key_impl_classBeside) (by kernel_rfl)
theorem impl_classBeside_L8_eq (q : DQuestion) (v : DSight) (all_ : Int) (many : Int) (next : Bool × List (Bool × List Int)) (goals : Bool × List (Bool × List Int)) (goal : Bool × List Int) (own : Bool × List Int) (t81 : Bool × List (Bool × List Int)) (t82 : Int) (t83 : Int) (t88 : Int) (t89 : Int) : impl_classBeside_L8 q v all_ many next goals goal own t81 t82 t83 t88 t89 =
 bif decide (t89 < t88) then
(impl_moved goal (IntKind.i64.wrap (t89 * many))).bind fun r =>
 bif decide (own.2.length + r.2.length ≤ lim) then
(impl_classBeside_L8 q v all_ many next goals goal ((own.1 && r.2.isEmpty), (own.2 ++ r.2)) t81 t82 t83 t88 (IntKind.i64.wrap (t89 + 1))).bind fun r => some r
else none
else 
 some (own.1, own.2) := Eq.trans (inf_loop_eq (H := H) 104 8 (loopCode Tryz.f104 8) (q, (v, (all_, (many, (next, (goals, (goal, (own, (t81, (t82, (t83, (t88, t89)))))))))))) key_impl_classBeside) (by kernel_rfl)
theorem impl_classBeside_eq (q : DQuestion) (v : DSight) : impl_classBeside q v =
(impl_Sight_classes v).bind fun r =>
(impl_guesses q.2.2).bind fun r1 =>
 bif decide (0 ≤ (IntKind.i64.wrap (r * r1))) then
 bif decide ((IntKind.i64.wrap (r * r1)) ≤ lim) then
 bif decide ((IntKind.i64.wrap (r * r1)) ≤ (IntKind.i64.wrap (r * r1))) then
 bif decide ((IntKind.i64.wrap (r * r1)) ≤ lim) then
(impl_classBeside_L0 q v r r1 (false, (List.replicate (Int.toNat (IntKind.i64.wrap (r * r1))) ((true, []) : Bool × List Int))) (false, []) r 0).bind fun r2 =>
(impl_goalsOf q.2.2).bind fun r3 =>
(impl_classBeside_L6 q v r r1 (r2.1, r2.2) (false, []) (r3.1, r3.2) (r3.2.length : Int) 0).bind fun r4 =>
(impl_Program_where q.1 q.1.2.2.1).bind fun r5 =>
(impl_Sight_classesOf v (r5.1, r5.2)).bind fun r6 =>
(impl_Question_againstFrom q (r6.1, r6.2)).bind fun r7 =>
 some ((r2.1, r2.2), ((r7.1, r7.2), (r4.1, r4.2)))
else none
else none
else none
else none := Eq.trans (inf_call_eq (H := H) 104 (q, v)) (by kernel_rfl)
theorem impl_ClassBeside_eq (q : DQuestion) (v : DSight) : impl_ClassBeside q v =
(impl_isSightOf q v).bind fun r =>
 bif !r then
 some ((true, []), ((true, []), ((true, []), false)))
else 
(impl_isFit q v).bind fun r1 =>
 bif !r1 then
 some ((true, []), ((true, []), ((true, []), false)))
else 
(impl_classBeside q v).bind fun r2 =>
 some ((r2.1.1, r2.1.2), ((r2.2.1.1, r2.2.1.2), ((r2.2.2.1, r2.2.2.2), true))) := Eq.trans (inf_call_eq (H := H) 43 (q, v)) (by kernel_rfl)
theorem laws_eqIntS_L0_eq (a : Bool × List Int) (b : Bool × List Int) (i : Int) : laws_eqIntS_L0 a b i =
 bif decide (i < (a.2.length : Int)) then
 bif decide (0 ≤ i) then
 bif decide (i < (a.2.length : Int)) then
 bif decide (0 ≤ i) then
 bif decide (i < (b.2.length : Int)) then
 bif ((a.2.getD (Int.toNat i) 0) != (b.2.getD (Int.toNat i) 0)) then
 some (.inl false)
else 
(laws_eqIntS_L0 a b (IntKind.i64.wrap (i + 1))).bind fun r => some r
else none
else none
else none
else none
else 
 some (.inr ()) := Eq.trans (inf_loop_eq (H := H) 17 0 (loopCode Tryz.f17 0) (a, (b, i)) key_laws_eqIntS) (by kernel_rfl)
theorem laws_eqIntS_eq (a : Bool × List Int) (b : Bool × List Int) : laws_eqIntS a b =
 bif ((a.2.length : Int) != (b.2.length : Int)) then
 some false
else 
(laws_eqIntS_L0 a b 0).bind fun r =>
 match r with
| .inl y =>
 some y
| .inr z =>
 some true := Eq.trans (inf_call_eq (H := H) 17 (a, b)) (by kernel_rfl)
theorem laws_eqIntSS_L0_eq (a : Bool × List (Bool × List Int)) (b : Bool × List (Bool × List Int)) (i : Int) : laws_eqIntSS_L0 a b i =
 bif decide (i < (a.2.length : Int)) then
 bif decide (0 ≤ i) then
 bif decide (i < (a.2.length : Int)) then
 bif decide (0 ≤ i) then
 bif decide (i < (b.2.length : Int)) then
(laws_eqIntS (a.2.getD (Int.toNat i) (true, [])) (b.2.getD (Int.toNat i) (true, []))).bind fun r =>
 bif !r then
 some (.inl false)
else 
(laws_eqIntSS_L0 a b (IntKind.i64.wrap (i + 1))).bind fun r => some r
else none
else none
else none
else none
else 
 some (.inr ()) := Eq.trans (inf_loop_eq (H := H) 45 0 (loopCode Tryz.f45 0) (a, (b, i)) key_laws_eqIntSS) (by kernel_rfl)
theorem laws_eqIntSS_eq (a : Bool × List (Bool × List Int)) (b : Bool × List (Bool × List Int)) : laws_eqIntSS a b =
 bif ((a.2.length : Int) != (b.2.length : Int)) then
 some false
else 
(laws_eqIntSS_L0 a b 0).bind fun r =>
 match r with
| .inl y =>
 some y
| .inr z =>
 some true := Eq.trans (inf_call_eq (H := H) 45 (a, b)) (by kernel_rfl)
theorem laws_eqGraph_eq (a : DGraph) (b : DGraph) : laws_eqGraph a b =
(laws_eqIntSS a b).bind fun r =>
 bif !r then
 some false
else 
 some true := Eq.trans (inf_call_eq (H := H) 44 (a, b)) (by kernel_rfl)
theorem laws_eqNode_eq (a : DNode) (b : DNode) : laws_eqNode a b =
 bif (a.1 != b.1) then
 some false
else 
 bif (a.2 != b.2) then
 some false
else 
 some true := Eq.trans (inf_call_eq (H := H) 73 (a, b)) (by kernel_rfl)
theorem laws_eqNodeS_L0_eq (a : Bool × List DNode) (b : Bool × List DNode) (i : Int) : laws_eqNodeS_L0 a b i =
 bif decide (i < (a.2.length : Int)) then
 bif decide (0 ≤ i) then
 bif decide (i < (a.2.length : Int)) then
 bif decide (0 ≤ i) then
 bif decide (i < (b.2.length : Int)) then
(laws_eqNode (a.2.getD (Int.toNat i) (0, 0)) (b.2.getD (Int.toNat i) (0, 0))).bind fun r =>
 bif !r then
 some (.inl false)
else 
(laws_eqNodeS_L0 a b (IntKind.i64.wrap (i + 1))).bind fun r => some r
else none
else none
else none
else none
else 
 some (.inr ()) := Eq.trans (inf_loop_eq (H := H) 28 0 (loopCode Tryz.f28 0) (a, (b, i)) key_laws_eqNodeS) (by kernel_rfl)
theorem laws_eqNodeS_eq (a : Bool × List DNode) (b : Bool × List DNode) : laws_eqNodeS a b =
 bif ((a.2.length : Int) != (b.2.length : Int)) then
 some false
else 
(laws_eqNodeS_L0 a b 0).bind fun r =>
 match r with
| .inl y =>
 some y
| .inr z =>
 some true := Eq.trans (inf_call_eq (H := H) 28 (a, b)) (by kernel_rfl)
theorem laws_eqChange_eq (a : DChange) (b : DChange) : laws_eqChange a b =
 bif (a.1 != b.1) then
 some false
else 
(laws_eqNodeS a.2 b.2).bind fun r =>
 bif !r then
 some false
else 
 some true := Eq.trans (inf_call_eq (H := H) 237 (a, b)) (by kernel_rfl)
theorem laws_eqChangeS_L0_eq (a : Bool × List DChange) (b : Bool × List DChange) (i : Int) : laws_eqChangeS_L0 a b i =
 bif decide (i < (a.2.length : Int)) then
 bif decide (0 ≤ i) then
 bif decide (i < (a.2.length : Int)) then
 bif decide (0 ≤ i) then
 bif decide (i < (b.2.length : Int)) then
(laws_eqChange (a.2.getD (Int.toNat i) (0, (true, []))) (b.2.getD (Int.toNat i) (0, (true, [])))).bind fun r =>
 bif !r then
 some (.inl false)
else 
(laws_eqChangeS_L0 a b (IntKind.i64.wrap (i + 1))).bind fun r => some r
else none
else none
else none
else none
else 
 some (.inr ()) := Eq.trans (inf_loop_eq (H := H) 176 0 (loopCode Tryz.f176 0) (a, (b, i)) key_laws_eqChangeS) (by kernel_rfl)
theorem laws_eqChangeS_eq (a : Bool × List DChange) (b : Bool × List DChange) : laws_eqChangeS a b =
 bif ((a.2.length : Int) != (b.2.length : Int)) then
 some false
else 
(laws_eqChangeS_L0 a b 0).bind fun r =>
 match r with
| .inl y =>
 some y
| .inr z =>
 some true := Eq.trans (inf_call_eq (H := H) 176 (a, b)) (by kernel_rfl)
theorem laws_eqCommand_eq (a : DCommand) (b : DCommand) : laws_eqCommand a b =
(laws_eqNodeS a.1 b.1).bind fun r =>
 bif !r then
 some false
else 
(laws_eqChangeS a.2 b.2).bind fun r1 =>
 bif !r1 then
 some false
else 
 some true := Eq.trans (inf_call_eq (H := H) 121 (a, b)) (by kernel_rfl)
theorem laws_eqCommandS_L0_eq (a : Bool × List DCommand) (b : Bool × List DCommand) (i : Int) : laws_eqCommandS_L0 a b i =
 bif decide (i < (a.2.length : Int)) then
 bif decide (0 ≤ i) then
 bif decide (i < (a.2.length : Int)) then
 bif decide (0 ≤ i) then
 bif decide (i < (b.2.length : Int)) then
(laws_eqCommand (a.2.getD (Int.toNat i) ((true, []), (true, []))) (b.2.getD (Int.toNat i) ((true, []), (true, [])))).bind fun r =>
 bif !r then
 some (.inl false)
else 
(laws_eqCommandS_L0 a b (IntKind.i64.wrap (i + 1))).bind fun r => some r
else none
else none
else none
else none
else 
 some (.inr ()) := Eq.trans (inf_loop_eq (H := H) 60 0 (loopCode Tryz.f60 0) (a, (b, i)) key_laws_eqCommandS) (by kernel_rfl)
theorem laws_eqCommandS_eq (a : Bool × List DCommand) (b : Bool × List DCommand) : laws_eqCommandS a b =
 bif ((a.2.length : Int) != (b.2.length : Int)) then
 some false
else 
(laws_eqCommandS_L0 a b 0).bind fun r =>
 match r with
| .inl y =>
 some y
| .inr z =>
 some true := Eq.trans (inf_call_eq (H := H) 60 (a, b)) (by kernel_rfl)
theorem laws_eqProgram_eq (a : DProgram) (b : DProgram) : laws_eqProgram a b =
 bif (a.1 != b.1) then
 some false
else 
 bif (a.2.1 != b.2.1) then
 some false
else 
(laws_eqNodeS a.2.2.1 b.2.2.1).bind fun r =>
 bif !r then
 some false
else 
(laws_eqCommandS a.2.2.2 b.2.2.2).bind fun r1 =>
 bif !r1 then
 some false
else 
 some true := Eq.trans (inf_call_eq (H := H) 18 (a, b)) (by kernel_rfl)
theorem laws_eqNodeSS_L0_eq (a : Bool × List (Bool × List DNode)) (b : Bool × List (Bool × List DNode)) (i : Int) : laws_eqNodeSS_L0 a b i =
 bif decide (i < (a.2.length : Int)) then
 bif decide (0 ≤ i) then
 bif decide (i < (a.2.length : Int)) then
 bif decide (0 ≤ i) then
 bif decide (i < (b.2.length : Int)) then
(laws_eqNodeS (a.2.getD (Int.toNat i) (true, [])) (b.2.getD (Int.toNat i) (true, []))).bind fun r =>
 bif !r then
 some (.inl false)
else 
(laws_eqNodeSS_L0 a b (IntKind.i64.wrap (i + 1))).bind fun r => some r
else none
else none
else none
else none
else 
 some (.inr ()) := Eq.trans (inf_loop_eq (H := H) 84 0 (loopCode Tryz.f84 0) (a, (b, i)) key_laws_eqNodeSS) (by kernel_rfl)
theorem laws_eqNodeSS_eq (a : Bool × List (Bool × List DNode)) (b : Bool × List (Bool × List DNode)) : laws_eqNodeSS a b =
 bif ((a.2.length : Int) != (b.2.length : Int)) then
 some false
else 
(laws_eqNodeSS_L0 a b 0).bind fun r =>
 match r with
| .inl y =>
 some y
| .inr z =>
 some true := Eq.trans (inf_call_eq (H := H) 84 (a, b)) (by kernel_rfl)
theorem laws_eqSaid_eq (a : DSaid) (b : DSaid) : laws_eqSaid a b =
 bif (a.1 != b.1) then
 some false
else 
 bif (a.2 != b.2) then
 some false
else 
 some true := Eq.trans (inf_call_eq (H := H) 140 (a, b)) (by kernel_rfl)
theorem laws_eqSaidS_L0_eq (a : Bool × List DSaid) (b : Bool × List DSaid) (i : Int) : laws_eqSaidS_L0 a b i =
 bif decide (i < (a.2.length : Int)) then
 bif decide (0 ≤ i) then
 bif decide (i < (a.2.length : Int)) then
 bif decide (0 ≤ i) then
 bif decide (i < (b.2.length : Int)) then
(laws_eqSaid (a.2.getD (Int.toNat i) (0, 0)) (b.2.getD (Int.toNat i) (0, 0))).bind fun r =>
 bif !r then
 some (.inl false)
else 
(laws_eqSaidS_L0 a b (IntKind.i64.wrap (i + 1))).bind fun r => some r
else none
else none
else none
else none
else 
 some (.inr ()) := Eq.trans (inf_loop_eq (H := H) 85 0 (loopCode Tryz.f85 0) (a, (b, i)) key_laws_eqSaidS) (by kernel_rfl)
theorem laws_eqSaidS_eq (a : Bool × List DSaid) (b : Bool × List DSaid) : laws_eqSaidS a b =
 bif ((a.2.length : Int) != (b.2.length : Int)) then
 some false
else 
(laws_eqSaidS_L0 a b 0).bind fun r =>
 match r with
| .inl y =>
 some y
| .inr z =>
 some true := Eq.trans (inf_call_eq (H := H) 85 (a, b)) (by kernel_rfl)
theorem laws_eqQuestion_eq (a : DQuestion) (b : DQuestion) : laws_eqQuestion a b =
(laws_eqProgram a.1 b.1).bind fun r =>
 bif !r then
 some false
else 
(laws_eqNodeSS a.2.1 b.2.1).bind fun r1 =>
 bif !r1 then
 some false
else 
(laws_eqSaidS a.2.2 b.2.2).bind fun r2 =>
 bif !r2 then
 some false
else 
 some true := Eq.trans (inf_call_eq (H := H) 36 (a, b)) (by kernel_rfl)
theorem laws_eqSight_eq (a : DSight) (b : DSight) : laws_eqSight a b =
(laws_eqIntS a b).bind fun r =>
 bif !r then
 some false
else 
 some true := Eq.trans (inf_call_eq (H := H) 19 (a, b)) (by kernel_rfl)
theorem laws_markNodeS_L0_eq (a : Bool × List DNode) (k_ : Int) (i : Int) : laws_markNodeS_L0 a k_ i =
 bif decide (i < (a.2.length : Int)) then
 bif decide (0 ≤ i) then
 bif decide (i < (a.2.length : Int)) then
 bif decide (0 ≤ i) then
 bif decide (i < ((a.2.set (Int.toNat i) (k_, (a.2.getD (Int.toNat i) (0, 0)).2)).length : Int)) then
(laws_markNodeS_L0 (a.1, ((a.2.set (Int.toNat i) (k_, (a.2.getD (Int.toNat i) (0, 0)).2)).set (Int.toNat i) (((a.2.set (Int.toNat i) (k_, (a.2.getD (Int.toNat i) (0, 0)).2)).getD (Int.toNat i) (0, 0)).1, IntKind.u64.wrap (IntKind.i64.wrap (k_ + 1))))) (IntKind.i64.wrap ((IntKind.i64.wrap (k_ + 1)) + 1)) (IntKind.i64.wrap (i + 1))).bind fun r => some r
else none
else none
else none
else none
else 
 some ((a.1, a.2), k_) := Eq.trans (inf_loop_eq (H := H) 31 0 (loopCode Tryz.f31 0) (a, (k_, i)) key_laws_markNodeS) (by kernel_rfl)
theorem laws_markNodeS_eq (a : Bool × List DNode) (k_ : Int) : laws_markNodeS a k_ =
(laws_markNodeS_L0 (a.1, a.2) k_ 0).bind fun r =>
 some ((r.1.1, r.1.2), r.2) := Eq.trans (inf_call_eq (H := H) 31 (a, k_)) (by kernel_rfl)
theorem laws_markChangeS_L0_eq (a : Bool × List DChange) (k_ : Int) (i : Int) : laws_markChangeS_L0 a k_ i =
 bif decide (i < (a.2.length : Int)) then
 bif decide (0 ≤ i) then
 bif decide (i < (a.2.length : Int)) then
 bif decide (0 ≤ i) then
 bif decide (i < ((a.2.set (Int.toNat i) (k_, (a.2.getD (Int.toNat i) (0, (true, []))).2)).length : Int)) then
(laws_markNodeS ((((a.2.set (Int.toNat i) (k_, (a.2.getD (Int.toNat i) (0, (true, []))).2)).getD (Int.toNat i) (0, (true, []))).2).1, (((a.2.set (Int.toNat i) (k_, (a.2.getD (Int.toNat i) (0, (true, []))).2)).getD (Int.toNat i) (0, (true, []))).2).2) (IntKind.i64.wrap (k_ + 1))).bind fun r =>
(laws_markChangeS_L0 (a.1, ((a.2.set (Int.toNat i) (k_, (a.2.getD (Int.toNat i) (0, (true, []))).2)).set (Int.toNat i) (((a.2.set (Int.toNat i) (k_, (a.2.getD (Int.toNat i) (0, (true, []))).2)).getD (Int.toNat i) (0, (true, []))).1, (r.1.1, r.1.2)))) r.2 (IntKind.i64.wrap (i + 1))).bind fun r => some r
else none
else none
else none
else none
else 
 some ((a.1, a.2), k_) := Eq.trans (inf_loop_eq (H := H) 122 0 (loopCode Tryz.f122 0) (a, (k_, i)) key_laws_markChangeS) (by kernel_rfl)
theorem laws_markChangeS_eq (a : Bool × List DChange) (k_ : Int) : laws_markChangeS a k_ =
(laws_markChangeS_L0 (a.1, a.2) k_ 0).bind fun r =>
 some ((r.1.1, r.1.2), r.2) := Eq.trans (inf_call_eq (H := H) 122 (a, k_)) (by kernel_rfl)
theorem laws_markCommandS_L0_eq (a : Bool × List DCommand) (k_ : Int) (i : Int) : laws_markCommandS_L0 a k_ i =
 bif decide (i < (a.2.length : Int)) then
 bif decide (0 ≤ i) then
 bif decide (i < (a.2.length : Int)) then
(laws_markNodeS (((a.2.getD (Int.toNat i) ((true, []), (true, []))).1).1, ((a.2.getD (Int.toNat i) ((true, []), (true, []))).1).2) k_).bind fun r =>
 bif decide (0 ≤ i) then
 bif decide (i < (a.2.length : Int)) then
(laws_markChangeS ((((a.2.set (Int.toNat i) ((r.1.1, r.1.2), (a.2.getD (Int.toNat i) ((true, []), (true, []))).2)).getD (Int.toNat i) ((true, []), (true, []))).2).1, (((a.2.set (Int.toNat i) ((r.1.1, r.1.2), (a.2.getD (Int.toNat i) ((true, []), (true, []))).2)).getD (Int.toNat i) ((true, []), (true, []))).2).2) r.2).bind fun r1 =>
(laws_markCommandS_L0 (a.1, ((a.2.set (Int.toNat i) ((r.1.1, r.1.2), (a.2.getD (Int.toNat i) ((true, []), (true, []))).2)).set (Int.toNat i) (((a.2.set (Int.toNat i) ((r.1.1, r.1.2), (a.2.getD (Int.toNat i) ((true, []), (true, []))).2)).getD (Int.toNat i) ((true, []), (true, []))).1, (r1.1.1, r1.1.2)))) r1.2 (IntKind.i64.wrap (i + 1))).bind fun r => some r
else none
else none
else none
else none
else 
 some ((a.1, a.2), k_) := Eq.trans (inf_loop_eq (H := H) 61 0 (loopCode Tryz.f61 0) (a, (k_, i)) key_laws_markCommandS) (by kernel_rfl)
theorem laws_markCommandS_eq (a : Bool × List DCommand) (k_ : Int) : laws_markCommandS a k_ =
(laws_markCommandS_L0 (a.1, a.2) k_ 0).bind fun r =>
 some ((r.1.1, r.1.2), r.2) := Eq.trans (inf_call_eq (H := H) 61 (a, k_)) (by kernel_rfl)
theorem laws_markProgram_eq (a0_0 : Int) (a0_1 : Int) (a0_2 : Bool × List DNode) (a0_3 : Bool × List DCommand) (k_ : Int) : laws_markProgram a0_0 a0_1 a0_2 a0_3 k_ =
(laws_markNodeS (a0_2.1, a0_2.2) k_).bind fun r =>
(laws_markCommandS (a0_3.1, a0_3.2) r.2).bind fun r1 =>
 some ((r.1.1, r.1.2), ((r1.1.1, r1.1.2), r1.2)) := Eq.trans (inf_call_eq (H := H) 20 (a0_0, (a0_1, (a0_2, (a0_3, k_))))) (by kernel_rfl)
theorem laws_markNodeSS_L0_eq (a : Bool × List (Bool × List DNode)) (k_ : Int) (i : Int) : laws_markNodeSS_L0 a k_ i =
 bif decide (i < (a.2.length : Int)) then
 bif decide (0 ≤ i) then
 bif decide (i < (a.2.length : Int)) then
(laws_markNodeS ((a.2.getD (Int.toNat i) (true, [])).1, (a.2.getD (Int.toNat i) (true, [])).2) k_).bind fun r =>
(laws_markNodeSS_L0 (a.1, (a.2.set (Int.toNat i) (r.1.1, r.1.2))) r.2 (IntKind.i64.wrap (i + 1))).bind fun r => some r
else none
else none
else 
 some ((a.1, a.2), k_) := Eq.trans (inf_loop_eq (H := H) 105 0 (loopCode Tryz.f105 0) (a, (k_, i)) key_laws_markNodeSS) (by kernel_rfl)
theorem laws_markNodeSS_eq (a : Bool × List (Bool × List DNode)) (k_ : Int) : laws_markNodeSS a k_ =
(laws_markNodeSS_L0 (a.1, a.2) k_ 0).bind fun r =>
 some ((r.1.1, r.1.2), r.2) := Eq.trans (inf_call_eq (H := H) 105 (a, k_)) (by kernel_rfl)
theorem laws_markSaidS_L0_eq (a : Bool × List DSaid) (k_ : Int) (i : Int) : laws_markSaidS_L0 a k_ i =
 bif decide (i < (a.2.length : Int)) then
 bif decide (0 ≤ i) then
 bif decide (i < (a.2.length : Int)) then
 bif decide (0 ≤ i) then
 bif decide (i < ((a.2.set (Int.toNat i) (k_, (a.2.getD (Int.toNat i) (0, 0)).2)).length : Int)) then
(laws_markSaidS_L0 (a.1, ((a.2.set (Int.toNat i) (k_, (a.2.getD (Int.toNat i) (0, 0)).2)).set (Int.toNat i) (((a.2.set (Int.toNat i) (k_, (a.2.getD (Int.toNat i) (0, 0)).2)).getD (Int.toNat i) (0, 0)).1, IntKind.i64.wrap (k_ + 1)))) (IntKind.i64.wrap ((IntKind.i64.wrap (k_ + 1)) + 1)) (IntKind.i64.wrap (i + 1))).bind fun r => some r
else none
else none
else none
else none
else 
 some ((a.1, a.2), k_) := Eq.trans (inf_loop_eq (H := H) 106 0 (loopCode Tryz.f106 0) (a, (k_, i)) key_laws_markSaidS) (by kernel_rfl)
theorem laws_markSaidS_eq (a : Bool × List DSaid) (k_ : Int) : laws_markSaidS a k_ =
(laws_markSaidS_L0 (a.1, a.2) k_ 0).bind fun r =>
 some ((r.1.1, r.1.2), r.2) := Eq.trans (inf_call_eq (H := H) 106 (a, k_)) (by kernel_rfl)
theorem laws_markQuestion_eq (a0_0 : Int) (a0_1 : Int) (a0_2 : Bool × List DNode) (a0_3 : Bool × List DCommand) (a0_4 : Bool × List (Bool × List DNode)) (a0_5 : Bool × List DSaid) (k_ : Int) : laws_markQuestion a0_0 a0_1 a0_2 a0_3 a0_4 a0_5 k_ =
(laws_markProgram a0_0 a0_1 (a0_2.1, a0_2.2) (a0_3.1, a0_3.2) k_).bind fun r =>
(laws_markNodeSS (a0_4.1, a0_4.2) r.2.2).bind fun r1 =>
(laws_markSaidS (a0_5.1, a0_5.2) r1.2).bind fun r2 =>
 some ((r.1.1, r.1.2), ((r.2.1.1, r.2.1.2), ((r1.1.1, r1.1.2), ((r2.1.1, r2.1.2), r2.2)))) := Eq.trans (inf_call_eq (H := H) 46 (a0_0, (a0_1, (a0_2, (a0_3, (a0_4, (a0_5, k_))))))) (by kernel_rfl)
theorem laws_markIntS_L0_eq (a : Bool × List Int) (k_ : Int) (i : Int) : laws_markIntS_L0 a k_ i =
 bif decide (i < (a.2.length : Int)) then
 bif decide (0 ≤ i) then
 bif decide (i < (a.2.length : Int)) then
(laws_markIntS_L0 (a.1, (a.2.set (Int.toNat i) k_)) (IntKind.i64.wrap (k_ + 1)) (IntKind.i64.wrap (i + 1))).bind fun r => some r
else none
else none
else 
 some ((a.1, a.2), k_) := Eq.trans (inf_loop_eq (H := H) 22 0 (loopCode Tryz.f22 0) (a, (k_, i)) key_laws_markIntS) (by kernel_rfl)
theorem laws_markIntS_eq (a : Bool × List Int) (k_ : Int) : laws_markIntS a k_ =
(laws_markIntS_L0 (a.1, a.2) k_ 0).bind fun r =>
 some ((r.1.1, r.1.2), r.2) := Eq.trans (inf_call_eq (H := H) 22 (a, k_)) (by kernel_rfl)
theorem laws_markSight_eq (a : Bool × List Int) (k_ : Int) : laws_markSight a k_ =
(laws_markIntS (a.1, a.2) k_).bind fun r =>
 some ((r.1.1, r.1.2), r.2) := Eq.trans (inf_call_eq (H := H) 21 (a, k_)) (by kernel_rfl)
theorem laws_markIntSS_L0_eq (a : Bool × List (Bool × List Int)) (k_ : Int) (i : Int) : laws_markIntSS_L0 a k_ i =
 bif decide (i < (a.2.length : Int)) then
 bif decide (0 ≤ i) then
 bif decide (i < (a.2.length : Int)) then
(laws_markIntS ((a.2.getD (Int.toNat i) (true, [])).1, (a.2.getD (Int.toNat i) (true, [])).2) k_).bind fun r =>
(laws_markIntSS_L0 (a.1, (a.2.set (Int.toNat i) (r.1.1, r.1.2))) r.2 (IntKind.i64.wrap (i + 1))).bind fun r => some r
else none
else none
else 
 some ((a.1, a.2), k_) := Eq.trans (inf_loop_eq (H := H) 48 0 (loopCode Tryz.f48 0) (a, (k_, i)) key_laws_markIntSS) (by kernel_rfl)
theorem laws_markIntSS_eq (a : Bool × List (Bool × List Int)) (k_ : Int) : laws_markIntSS a k_ =
(laws_markIntSS_L0 (a.1, a.2) k_ 0).bind fun r =>
 some ((r.1.1, r.1.2), r.2) := Eq.trans (inf_call_eq (H := H) 48 (a, k_)) (by kernel_rfl)
theorem laws_markGraph_eq (a : Bool × List (Bool × List Int)) (k_ : Int) : laws_markGraph a k_ =
(laws_markIntSS (a.1, a.2) k_).bind fun r =>
 some ((r.1.1, r.1.2), r.2) := Eq.trans (inf_call_eq (H := H) 47 (a, k_)) (by kernel_rfl)
theorem laws_heldIntS_L0_eq (a : Bool × List Int) (k_ : Int) (i : Int) : laws_heldIntS_L0 a k_ i =
 bif decide (i < (a.2.length : Int)) then
 bif decide (0 ≤ i) then
 bif decide (i < (a.2.length : Int)) then
 bif ((a.2.getD (Int.toNat i) 0) != k_) then
 some (.inl (-1))
else 
(laws_heldIntS_L0 a (IntKind.i64.wrap (k_ + 1)) (IntKind.i64.wrap (i + 1))).bind fun r => some r
else none
else none
else 
 some (.inr k_) := Eq.trans (inf_loop_eq (H := H) 23 0 (loopCode Tryz.f23 0) (a, (k_, i)) key_laws_heldIntS) (by kernel_rfl)
theorem laws_heldIntS_eq (a : Bool × List Int) (k_ : Int) : laws_heldIntS a k_ =
(laws_heldIntS_L0 a k_ 0).bind fun r =>
 match r with
| .inl y =>
 some y
| .inr z =>
 some z := Eq.trans (inf_call_eq (H := H) 23 (a, k_)) (by kernel_rfl)
theorem laws_heldIntSS_L0_eq (a : Bool × List (Bool × List Int)) (k_ : Int) (i : Int) : laws_heldIntSS_L0 a k_ i =
 bif decide (i < (a.2.length : Int)) then
 bif decide (0 ≤ i) then
 bif decide (i < (a.2.length : Int)) then
(laws_heldIntS (a.2.getD (Int.toNat i) (true, [])) k_).bind fun r =>
 bif decide (r < 0) then
 some (.inl (-1))
else 
(laws_heldIntSS_L0 a r (IntKind.i64.wrap (i + 1))).bind fun r => some r
else none
else none
else 
 some (.inr k_) := Eq.trans (inf_loop_eq (H := H) 50 0 (loopCode Tryz.f50 0) (a, (k_, i)) key_laws_heldIntSS) (by kernel_rfl)
theorem laws_heldIntSS_eq (a : Bool × List (Bool × List Int)) (k_ : Int) : laws_heldIntSS a k_ =
(laws_heldIntSS_L0 a k_ 0).bind fun r =>
 match r with
| .inl y =>
 some y
| .inr z =>
 some z := Eq.trans (inf_call_eq (H := H) 50 (a, k_)) (by kernel_rfl)
theorem laws_heldGraph_eq (a : DGraph) (k_ : Int) : laws_heldGraph a k_ =
(laws_heldIntSS a k_).bind fun r =>
 bif decide (r < 0) then
 some (-1)
else 
 some r := Eq.trans (inf_call_eq (H := H) 49 (a, k_)) (by kernel_rfl)
theorem laws_FnExactClassBeside_eq (aQ : DQuestion) (aV : DSight) : laws_FnExactClassBeside aQ aV =
(laws_szQuestion aQ 1048576).bind fun r =>
 bif decide (r < 0) then
 some true
else 
(laws_szSight aV r).bind fun r1 =>
 bif decide (r1 < 0) then
 some true
else 
(laws_toQuestion aQ).bind fun r2 =>
(laws_toSight aV).bind fun r3 =>
(spec_ClassBeside ((r2.1, (r2.2.1, ((r2.2.2.1.1, r2.2.2.1.2), (r2.2.2.2.1.1, r2.2.2.2.1.2)))), ((r2.2.2.2.2.1.1, r2.2.2.2.2.1.2), (r2.2.2.2.2.2.1, r2.2.2.2.2.2.2))) (r3.1, r3.2)).bind fun r4 =>
(laws_toQuestion aQ).bind fun r5 =>
(laws_toSight aV).bind fun r6 =>
(impl_ClassBeside ((r5.1, (r5.2.1, ((r5.2.2.1.1, r5.2.2.1.2), (r5.2.2.2.1.1, r5.2.2.2.1.2)))), ((r5.2.2.2.2.1.1, r5.2.2.2.2.1.2), (r5.2.2.2.2.2.1, r5.2.2.2.2.2.2))) (r6.1, r6.2)).bind fun r7 =>
(laws_eqGraph (r7.1.1, r7.1.2) (r4.1.1, r4.1.2)).bind fun r8 =>
 bif !r8 then
 some false
else 
(laws_eqIntS (r7.2.1.1, r7.2.1.2) (r4.2.1.1, r4.2.1.2)).bind fun r9 =>
 bif !r9 then
 some false
else 
(laws_eqIntSS (r7.2.2.1.1, r7.2.2.1.2) (r4.2.2.1.1, r4.2.2.1.2)).bind fun r10 =>
 bif !r10 then
 some false
else 
 bif !(r7.2.2.2 == r4.2.2.2) then
 some false
else 
(laws_toQuestion aQ).bind fun r11 =>
(laws_eqQuestion ((r5.1, (r5.2.1, ((r5.2.2.1.1, r5.2.2.1.2), (r5.2.2.2.1.1, r5.2.2.2.1.2)))), ((r5.2.2.2.2.1.1, r5.2.2.2.2.1.2), (r5.2.2.2.2.2.1, r5.2.2.2.2.2.2))) ((r11.1, (r11.2.1, ((r11.2.2.1.1, r11.2.2.1.2), (r11.2.2.2.1.1, r11.2.2.2.1.2)))), ((r11.2.2.2.2.1.1, r11.2.2.2.2.1.2), (r11.2.2.2.2.2.1, r11.2.2.2.2.2.2)))).bind fun r12 =>
 bif !r12 then
 some false
else 
(laws_toSight aV).bind fun r13 =>
(laws_eqSight (r6.1, r6.2) (r13.1, r13.2)).bind fun r14 =>
 bif !r14 then
 some false
else 
(laws_markQuestion r5.1 r5.2.1 (r5.2.2.1.1, r5.2.2.1.2) (r5.2.2.2.1.1, r5.2.2.2.1.2) (r5.2.2.2.2.1.1, r5.2.2.2.2.1.2) (r5.2.2.2.2.2.1, r5.2.2.2.2.2.2) 1).bind fun r15 =>
(laws_markSight (r6.1, r6.2) r15.2.2.2.2).bind fun r16 =>
 bif decide (r16.2 < 0) then
 some false
else 
(laws_eqGraph (r7.1.1, r7.1.2) (r4.1.1, r4.1.2)).bind fun r17 =>
 bif !r17 then
 some false
else 
(laws_eqIntS (r7.2.1.1, r7.2.1.2) (r4.2.1.1, r4.2.1.2)).bind fun r18 =>
 bif !r18 then
 some false
else 
(laws_eqIntSS (r7.2.2.1.1, r7.2.2.1.2) (r4.2.2.1.1, r4.2.2.1.2)).bind fun r19 =>
 bif !r19 then
 some false
else 
 bif !(r7.2.2.2 == r4.2.2.2) then
 some false
else 
(laws_markGraph (r7.1.1, r7.1.2) 1).bind fun r20 =>
(laws_markIntS (r7.2.1.1, r7.2.1.2) r20.2).bind fun r21 =>
(laws_markIntSS (r7.2.2.1.1, r7.2.2.1.2) r21.2).bind fun r22 =>
(laws_heldGraph (r20.1.1, r20.1.2) 1).bind fun r23 =>
 bif decide (r23 < 0) then
 some false
else 
(laws_heldIntS (r21.1.1, r21.1.2) r23).bind fun r24 =>
 bif decide (r24 < 0) then
 some false
else 
(laws_heldIntSS (r22.1.1, r22.1.2) r24).bind fun r25 =>
 bif decide (r25 < 0) then
 some false
else 
 bif (r25 != r22.2) then
 some false
else 
(laws_toQuestion aQ).bind fun r26 =>
(laws_toSight aV).bind fun r27 =>
(impl_ClassBeside ((r26.1, (r26.2.1, ((r26.2.2.1.1, r26.2.2.1.2), (r26.2.2.2.1.1, r26.2.2.2.1.2)))), ((r26.2.2.2.2.1.1, r26.2.2.2.2.1.2), (r26.2.2.2.2.2.1, r26.2.2.2.2.2.2))) (r27.1, r27.2)).bind fun r28 =>
(laws_eqGraph (r28.1.1, r28.1.2) (r4.1.1, r4.1.2)).bind fun r29 =>
 bif !r29 then
 some false
else 
(laws_eqIntS (r28.2.1.1, r28.2.1.2) (r4.2.1.1, r4.2.1.2)).bind fun r30 =>
 bif !r30 then
 some false
else 
(laws_eqIntSS (r28.2.2.1.1, r28.2.2.1.2) (r4.2.2.1.1, r4.2.2.1.2)).bind fun r31 =>
 bif !r31 then
 some false
else 
 bif !(r28.2.2.2 == r4.2.2.2) then
 some false
else 
(laws_heldGraph (r20.1.1, r20.1.2) 1).bind fun r32 =>
 bif decide (r32 < 0) then
 some false
else 
(laws_heldIntS (r21.1.1, r21.1.2) r32).bind fun r33 =>
 bif decide (r33 < 0) then
 some false
else 
(laws_heldIntSS (r22.1.1, r22.1.2) r33).bind fun r34 =>
 bif decide (r34 < 0) then
 some false
else 
 bif (r34 != r22.2) then
 some false
else 
 some true := Eq.trans (inf_call_eq (H := H) 9 (aQ, aV)) (by kernel_rfl)
theorem fit : Fit Tryz.prog H := fit_of (exts := extsL) (tys := tysL) (cells := cellsL) (keys := keysL) rfl rfl rfl rfl (by kernel_rfl) (by kernel_rfl) ⟨⟨Tryz.func24, by kernel_rfl, by kernel_rfl⟩, ⟨Tryz.func229, by kernel_rfl, by kernel_rfl⟩, ⟨Tryz.func169, by kernel_rfl, by kernel_rfl⟩, ⟨Tryz.func109, by kernel_rfl, by kernel_rfl⟩, ⟨Tryz.func53, by kernel_rfl, by kernel_rfl⟩, ⟨Tryz.func11, by kernel_rfl, by kernel_rfl⟩, ⟨Tryz.func76, by kernel_rfl, by kernel_rfl⟩, ⟨Tryz.func77, by kernel_rfl, by kernel_rfl⟩, ⟨Tryz.func32, by kernel_rfl, by kernel_rfl⟩, ⟨Tryz.func54, by kernel_rfl, by kernel_rfl⟩, ⟨Tryz.func12, by kernel_rfl, by kernel_rfl⟩, ⟨Tryz.func66, by kernel_rfl, by kernel_rfl⟩, ⟨Tryz.func26, by kernel_rfl, by kernel_rfl⟩, ⟨Tryz.func231, by kernel_rfl, by kernel_rfl⟩, ⟨Tryz.func173, by kernel_rfl, by kernel_rfl⟩, ⟨Tryz.func115, by kernel_rfl, by kernel_rfl⟩, ⟨Tryz.func57, by kernel_rfl, by kernel_rfl⟩, ⟨Tryz.func14, by kernel_rfl, by kernel_rfl⟩, ⟨Tryz.func80, by kernel_rfl, by kernel_rfl⟩, ⟨Tryz.func136, by kernel_rfl, by kernel_rfl⟩, ⟨Tryz.func81, by kernel_rfl, by kernel_rfl⟩, ⟨Tryz.func34, by kernel_rfl, by kernel_rfl⟩, ⟨Tryz.func40, by kernel_rfl, by kernel_rfl⟩, ⟨Tryz.func15, by kernel_rfl, by kernel_rfl⟩, ⟨Tryz.func86, by kernel_rfl, by kernel_rfl⟩, ⟨Tryz.func177, by kernel_rfl, by kernel_rfl⟩, ⟨Tryz.func178, by kernel_rfl, by kernel_rfl⟩, ⟨Tryz.func239, by kernel_rfl, by kernel_rfl⟩, ⟨Tryz.func238, by kernel_rfl, by kernel_rfl⟩, ⟨Tryz.func179, by kernel_rfl, by kernel_rfl⟩, ⟨Tryz.func123, by kernel_rfl, by kernel_rfl⟩, ⟨Tryz.func62, by kernel_rfl, by kernel_rfl⟩, ⟨Tryz.func230, by kernel_rfl, by kernel_rfl⟩, ⟨Tryz.func170, by kernel_rfl, by kernel_rfl⟩, ⟨Tryz.func110, by kernel_rfl, by kernel_rfl⟩, ⟨Tryz.func272, by kernel_rfl, by kernel_rfl⟩, ⟨Tryz.func273, by kernel_rfl, by kernel_rfl⟩, ⟨Tryz.func245, by kernel_rfl, by kernel_rfl⟩, ⟨Tryz.func172, by kernel_rfl, by kernel_rfl⟩, ⟨Tryz.func207, by kernel_rfl, by kernel_rfl⟩, ⟨Tryz.func187, by kernel_rfl, by kernel_rfl⟩, ⟨Tryz.func133, by kernel_rfl, by kernel_rfl⟩, ⟨Tryz.func111, by kernel_rfl, by kernel_rfl⟩, ⟨Tryz.func55, by kernel_rfl, by kernel_rfl⟩, ⟨Tryz.func78, by kernel_rfl, by kernel_rfl⟩, ⟨Tryz.func87, by kernel_rfl, by kernel_rfl⟩, ⟨Tryz.func134, by kernel_rfl, by kernel_rfl⟩, ⟨Tryz.func125, by kernel_rfl, by kernel_rfl⟩, ⟨Tryz.func241, by kernel_rfl, by kernel_rfl⟩, ⟨Tryz.func282, by kernel_rfl, by kernel_rfl⟩, ⟨Tryz.func267, by kernel_rfl, by kernel_rfl⟩, ⟨Tryz.func268, by kernel_rfl, by kernel_rfl⟩, ⟨Tryz.func269, by kernel_rfl, by kernel_rfl⟩, ⟨Tryz.func270, by kernel_rfl, by kernel_rfl⟩, ⟨Tryz.func240, by kernel_rfl, by kernel_rfl⟩, ⟨Tryz.func180, by kernel_rfl, by kernel_rfl⟩, ⟨Tryz.func124, by kernel_rfl, by kernel_rfl⟩, ⟨Tryz.func135, by kernel_rfl, by kernel_rfl⟩, ⟨Tryz.func79, by kernel_rfl, by kernel_rfl⟩, ⟨Tryz.func209, by kernel_rfl, by kernel_rfl⟩, ⟨Tryz.func208, by kernel_rfl, by kernel_rfl⟩, ⟨Tryz.func250, by kernel_rfl, by kernel_rfl⟩, ⟨Tryz.func261, by kernel_rfl, by kernel_rfl⟩, ⟨Tryz.func210, by kernel_rfl, by kernel_rfl⟩, ⟨Tryz.func154, by kernel_rfl, by kernel_rfl⟩, ⟨Tryz.func88, by kernel_rfl, by kernel_rfl⟩, ⟨Tryz.func193, by kernel_rfl, by kernel_rfl⟩, ⟨Tryz.func195, by kernel_rfl, by kernel_rfl⟩, ⟨Tryz.func194, by kernel_rfl, by kernel_rfl⟩, ⟨Tryz.func143, by kernel_rfl, by kernel_rfl⟩, ⟨Tryz.func211, by kernel_rfl, by kernel_rfl⟩, ⟨Tryz.func114, by kernel_rfl, by kernel_rfl⟩, ⟨Tryz.func155, by kernel_rfl, by kernel_rfl⟩, ⟨Tryz.func142, by kernel_rfl, by kernel_rfl⟩, ⟨Tryz.func156, by kernel_rfl, by kernel_rfl⟩, ⟨Tryz.func158, by kernel_rfl, by kernel_rfl⟩, ⟨Tryz.func157, by kernel_rfl, by kernel_rfl⟩, ⟨Tryz.func65, by kernel_rfl, by kernel_rfl⟩, ⟨Tryz.func103, by kernel_rfl, by kernel_rfl⟩, ⟨Tryz.func42, by kernel_rfl, by kernel_rfl⟩, ⟨Tryz.func232, by kernel_rfl, by kernel_rfl⟩, ⟨Tryz.func233, by kernel_rfl, by kernel_rfl⟩, ⟨Tryz.func242, by kernel_rfl, by kernel_rfl⟩, ⟨Tryz.func149, by kernel_rfl, by kernel_rfl⟩, ⟨Tryz.func271, by kernel_rfl, by kernel_rfl⟩, ⟨Tryz.func243, by kernel_rfl, by kernel_rfl⟩, ⟨Tryz.func244, by kernel_rfl, by kernel_rfl⟩, ⟨Tryz.func129, by kernel_rfl, by kernel_rfl⟩, ⟨Tryz.func70, by kernel_rfl, by kernel_rfl⟩, ⟨Tryz.func181, by kernel_rfl, by kernel_rfl⟩, ⟨Tryz.func182, by kernel_rfl, by kernel_rfl⟩, ⟨Tryz.func126, by kernel_rfl, by kernel_rfl⟩, ⟨Tryz.func67, by kernel_rfl, by kernel_rfl⟩, ⟨Tryz.func236, by kernel_rfl, by kernel_rfl⟩, ⟨Tryz.func235, by kernel_rfl, by kernel_rfl⟩, ⟨Tryz.func266, by kernel_rfl, by kernel_rfl⟩, ⟨Tryz.func234, by kernel_rfl, by kernel_rfl⟩, ⟨Tryz.func174, by kernel_rfl, by kernel_rfl⟩, ⟨Tryz.func116, by kernel_rfl, by kernel_rfl⟩, ⟨Tryz.func151, by kernel_rfl, by kernel_rfl⟩, ⟨Tryz.func274, by kernel_rfl, by kernel_rfl⟩, ⟨Tryz.func246, by kernel_rfl, by kernel_rfl⟩, ⟨Tryz.func227, by kernel_rfl, by kernel_rfl⟩, ⟨Tryz.func215, by kernel_rfl, by kernel_rfl⟩, ⟨Tryz.func257, by kernel_rfl, by kernel_rfl⟩, ⟨Tryz.func258, by kernel_rfl, by kernel_rfl⟩, ⟨Tryz.func212, by kernel_rfl, by kernel_rfl⟩, ⟨Tryz.func188, by kernel_rfl, by kernel_rfl⟩, ⟨Tryz.func190, by kernel_rfl, by kernel_rfl⟩, ⟨Tryz.func247, by kernel_rfl, by kernel_rfl⟩, ⟨Tryz.func189, by kernel_rfl, by kernel_rfl⟩, ⟨Tryz.func137, by kernel_rfl, by kernel_rfl⟩, ⟨Tryz.func118, by kernel_rfl, by kernel_rfl⟩, ⟨Tryz.func117, by kernel_rfl, by kernel_rfl⟩, ⟨Tryz.func58, by kernel_rfl, by kernel_rfl⟩, ⟨Tryz.func82, by kernel_rfl, by kernel_rfl⟩, ⟨Tryz.func183, by kernel_rfl, by kernel_rfl⟩, ⟨Tryz.func127, by kernel_rfl, by kernel_rfl⟩, ⟨Tryz.func249, by kernel_rfl, by kernel_rfl⟩, ⟨Tryz.func191, by kernel_rfl, by kernel_rfl⟩, ⟨Tryz.func138, by kernel_rfl, by kernel_rfl⟩, ⟨Tryz.func99, by kernel_rfl, by kernel_rfl⟩, ⟨Tryz.func275, by kernel_rfl, by kernel_rfl⟩, ⟨Tryz.func276, by kernel_rfl, by kernel_rfl⟩, ⟨Tryz.func251, by kernel_rfl, by kernel_rfl⟩, ⟨Tryz.func252, by kernel_rfl, by kernel_rfl⟩, ⟨Tryz.func253, by kernel_rfl, by kernel_rfl⟩, ⟨Tryz.func254, by kernel_rfl, by kernel_rfl⟩, ⟨Tryz.func198, by kernel_rfl, by kernel_rfl⟩, ⟨Tryz.func148, by kernel_rfl, by kernel_rfl⟩, ⟨Tryz.func98, by kernel_rfl, by kernel_rfl⟩, ⟨Tryz.func139, by kernel_rfl, by kernel_rfl⟩, ⟨Tryz.func83, by kernel_rfl, by kernel_rfl⟩, ⟨Tryz.func159, by kernel_rfl, by kernel_rfl⟩, ⟨Tryz.func130, by kernel_rfl, by kernel_rfl⟩, ⟨Tryz.func90, by kernel_rfl, by kernel_rfl⟩, ⟨Tryz.func213, by kernel_rfl, by kernel_rfl⟩, ⟨Tryz.func277, by kernel_rfl, by kernel_rfl⟩, ⟨Tryz.func256, by kernel_rfl, by kernel_rfl⟩, ⟨Tryz.func255, by kernel_rfl, by kernel_rfl⟩, ⟨Tryz.func199, by kernel_rfl, by kernel_rfl⟩, ⟨Tryz.func128, by kernel_rfl, by kernel_rfl⟩, ⟨Tryz.func68, by kernel_rfl, by kernel_rfl⟩, ⟨Tryz.func160, by kernel_rfl, by kernel_rfl⟩, ⟨Tryz.func218, by kernel_rfl, by kernel_rfl⟩, ⟨Tryz.func214, by kernel_rfl, by kernel_rfl⟩, ⟨Tryz.func161, by kernel_rfl, by kernel_rfl⟩, ⟨Tryz.func217, by kernel_rfl, by kernel_rfl⟩, ⟨Tryz.func216, by kernel_rfl, by kernel_rfl⟩, ⟨Tryz.func162, by kernel_rfl, by kernel_rfl⟩, ⟨Tryz.func163, by kernel_rfl, by kernel_rfl⟩, ⟨Tryz.func69, by kernel_rfl, by kernel_rfl⟩, ⟨Tryz.func262, by kernel_rfl, by kernel_rfl⟩, ⟨Tryz.func216, by kernel_rfl, by kernel_rfl⟩, ⟨Tryz.func219, by kernel_rfl, by kernel_rfl⟩, ⟨Tryz.func164, by kernel_rfl, by kernel_rfl⟩, ⟨Tryz.func104, by kernel_rfl, by kernel_rfl⟩, ⟨Tryz.func43, by kernel_rfl, by kernel_rfl⟩, ⟨Tryz.func17, by kernel_rfl, by kernel_rfl⟩, ⟨Tryz.func45, by kernel_rfl, by kernel_rfl⟩, ⟨Tryz.func44, by kernel_rfl, by kernel_rfl⟩, ⟨Tryz.func73, by kernel_rfl, by kernel_rfl⟩, ⟨Tryz.func28, by kernel_rfl, by kernel_rfl⟩, ⟨Tryz.func237, by kernel_rfl, by kernel_rfl⟩, ⟨Tryz.func176, by kernel_rfl, by kernel_rfl⟩, ⟨Tryz.func121, by kernel_rfl, by kernel_rfl⟩, ⟨Tryz.func60, by kernel_rfl, by kernel_rfl⟩, ⟨Tryz.func18, by kernel_rfl, by kernel_rfl⟩, ⟨Tryz.func84, by kernel_rfl, by kernel_rfl⟩, ⟨Tryz.func140, by kernel_rfl, by kernel_rfl⟩, ⟨Tryz.func85, by kernel_rfl, by kernel_rfl⟩, ⟨Tryz.func36, by kernel_rfl, by kernel_rfl⟩, ⟨Tryz.func19, by kernel_rfl, by kernel_rfl⟩, ⟨Tryz.func31, by kernel_rfl, by kernel_rfl⟩, ⟨Tryz.func122, by kernel_rfl, by kernel_rfl⟩, ⟨Tryz.func61, by kernel_rfl, by kernel_rfl⟩, ⟨Tryz.func20, by kernel_rfl, by kernel_rfl⟩, ⟨Tryz.func105, by kernel_rfl, by kernel_rfl⟩, ⟨Tryz.func106, by kernel_rfl, by kernel_rfl⟩, ⟨Tryz.func46, by kernel_rfl, by kernel_rfl⟩, ⟨Tryz.func22, by kernel_rfl, by kernel_rfl⟩, ⟨Tryz.func21, by kernel_rfl, by kernel_rfl⟩, ⟨Tryz.func48, by kernel_rfl, by kernel_rfl⟩, ⟨Tryz.func47, by kernel_rfl, by kernel_rfl⟩, ⟨Tryz.func23, by kernel_rfl, by kernel_rfl⟩, ⟨Tryz.func50, by kernel_rfl, by kernel_rfl⟩, ⟨Tryz.func49, by kernel_rfl, by kernel_rfl⟩, ⟨Tryz.func9, by kernel_rfl, by kernel_rfl⟩, trivial⟩ trivial (by kernel_rfl)
theorem nats : NatOk Tryz.prog H := nat_of (keys := keysL) rfl ⟨.plain rfl, .plain rfl, .plain rfl, .plain rfl, .plain rfl, .plain rfl, .plain rfl, .plain rfl, .plain rfl, .plain rfl, .plain rfl, .plain rfl, .plain rfl, .plain rfl, .plain rfl, .plain rfl, .plain rfl, .plain rfl, .plain rfl, .plain rfl, .plain rfl, .plain rfl, .plain rfl, .plain rfl, .plain rfl, .plain rfl, .plain rfl, .plain rfl, .plain rfl, .plain rfl, .plain rfl, .plain rfl, .plain rfl, .plain rfl, .plain rfl, .plain rfl, .plain rfl, .plain rfl, .plain rfl, .plain rfl, .plain rfl, .plain rfl, .plain rfl, .plain rfl, .plain rfl, .plain rfl, .plain rfl, .plain rfl, .plain rfl, .plain rfl, .plain rfl, .plain rfl, .plain rfl, .plain rfl, .plain rfl, .plain rfl, .plain rfl, .plain rfl, .plain rfl, .plain rfl, .plain rfl, .plain rfl, .plain rfl, .plain rfl, .plain rfl, .plain rfl, .plain rfl, .plain rfl, .plain rfl, .plain rfl, .plain rfl, .plain rfl, .plain rfl, .plain rfl, .plain rfl, .plain rfl, .plain rfl, .plain rfl, .plain rfl, .plain rfl, .plain rfl, .plain rfl, .plain rfl, .plain rfl, .plain rfl, .plain rfl, .plain rfl, .plain rfl, .plain rfl, .plain rfl, .plain rfl, .plain rfl, .plain rfl, .plain rfl, .plain rfl, .plain rfl, .plain rfl, .plain rfl, .plain rfl, .plain rfl, .plain rfl, .plain rfl, .plain rfl, .plain rfl, .sort Tryz.sortOk, .compact (by decide) Tryz.compactOk, .plain rfl, .plain rfl, .plain rfl, .plain rfl, .plain rfl, .plain rfl, .plain rfl, .plain rfl, .plain rfl, .plain rfl, .plain rfl, .plain rfl, .plain rfl, .plain rfl, .plain rfl, .plain rfl, .plain rfl, .plain rfl, .plain rfl, .plain rfl, .plain rfl, .plain rfl, .plain rfl, .plain rfl, .plain rfl, .plain rfl, .plain rfl, .plain rfl, .plain rfl, .plain rfl, .plain rfl, .plain rfl, .plain rfl, .plain rfl, .plain rfl, .plain rfl, .plain rfl, .plain rfl, .plain rfl, .plain rfl, .plain rfl, .plain rfl, .plain rfl, .plain rfl, .plain rfl, .plain rfl, .plain rfl, .plain rfl, .plain rfl, .plain rfl, .plain rfl, .plain rfl, .plain rfl, .plain rfl, .plain rfl, .plain rfl, .plain rfl, .plain rfl, .plain rfl, .plain rfl, .plain rfl, .plain rfl, .plain rfl, .plain rfl, .plain rfl, .plain rfl, .plain rfl, .plain rfl, .plain rfl, .plain rfl, .plain rfl, .plain rfl, .plain rfl, .plain rfl, .plain rfl, .plain rfl, .plain rfl, .plain rfl, .plain rfl, .plain rfl, .plain rfl, .plain rfl, trivial⟩
end Go.Proofs.YtmfoobckeoaklaaGreat.R
