/-
Texts of the proof, joined: R25, R26, R54, Ev0, Ev1, Ev2, R55, Ev3, Ev4, R28, R27, Ev5.
-/
import Derived.Test.YtaajedkbaahgfaaGreatDoorA6
import Derived.Test.YtaajedkbaahgfaaGreatDoorProg
set_option linter.unusedSimpArgs false
set_option linter.unusedVariables false
set_option linter.unusedSectionVars false
/-
Residual of function 25
-/
namespace Go.Proofs.YtaajedkbaahgfaaGreatDoor
open Go Go.AE
set_option maxRecDepth 100000
/-! touchstone/eval.fits -/
noncomputable def C25 : Code := Tryz.f25.body.getD .skip
noncomputable def E25 (n : Nat) (call : CallF) : KX CRes := kEnd Tryz.prog true locOfF n call (mapL (rsVar Tryz.prog 5) Tryz.f25.results.toList)
noncomputable def R25_0 (n : Nat) (call : CallF) : TM → Defs → Heap → Nat → KX CRes → Option CRes := kCode (β := CRes) Tryz.prog 26 5 66977592 C25 n call
noncomputable def R25_1 (n : Nat) (call : CallF) : TM → Defs → Heap → Nat → KX CRes → Option CRes := kCode (β := CRes) Tryz.prog 26 5 66977592 (cL C25) n call
noncomputable def R25_2 (n : Nat) (call : CallF) : TM → Defs → Heap → Nat → KX CRes → Option CRes := kCode (β := CRes) Tryz.prog 26 5 66977592 (cR C25) n call
noncomputable def R25_3 (n : Nat) (call : CallF) : TM → Defs → Heap → Nat → KX CRes → Option CRes := kCode (β := CRes) Tryz.prog 26 5 66977592 (cL (cR C25)) n call
noncomputable def R25_4 (n : Nat) (call : CallF) : TM → Defs → Heap → Nat → KX CRes → Option CRes := kCode (β := CRes) Tryz.prog 26 5 66977592 (cR (cR C25)) n call
noncomputable def R25_5 (n : Nat) (call : CallF) : TM → Defs → Heap → Nat → KX CRes → Option CRes := kCode (β := CRes) Tryz.prog 26 5 66977592 (cL (cL (cR C25))) n call
noncomputable def R25_6 (n : Nat) (call : CallF) : TM → Defs → Heap → Nat → KX CRes → Option CRes := kCode (β := CRes) Tryz.prog 26 5 66977592 (cR (cL (cR C25))) n call
noncomputable def R25_7 (n : Nat) (call : CallF) : TM → Defs → Heap → Nat → KX CRes → Option CRes := kCode (β := CRes) Tryz.prog 26 5 66977592 (cL (cR (cL (cR C25)))) n call
noncomputable def R25_8 (n : Nat) (call : CallF) : TM → Defs → Heap → Nat → KX CRes → Option CRes := kCode (β := CRes) Tryz.prog 26 5 66977592 (cL (cL (cR (cL (cR C25))))) n call
noncomputable def R25_9 (n : Nat) (call : CallF) : TM → Defs → Heap → Nat → KX CRes → Option CRes := kCode (β := CRes) Tryz.prog 26 5 66977592 (cR (cL (cR (cL (cR C25))))) n call
noncomputable def R25_10 (n : Nat) (call : CallF) : TM → Defs → Heap → Nat → KX CRes → Option CRes := kCode (β := CRes) Tryz.prog 26 5 66977592 (cL (cR (cL (cR (cL (cR C25)))))) n call
noncomputable def R25_11 (n : Nat) (call : CallF) : TM → Defs → Heap → Nat → KX CRes → Option CRes := kCode (β := CRes) Tryz.prog 26 5 66977592 (cR (cR (cL (cR (cL (cR C25)))))) n call
noncomputable def R25_12 (n : Nat) (call : CallF) : TM → Defs → Heap → Nat → KX CRes → Option CRes := kCode (β := CRes) Tryz.prog 26 5 66977592 (cL (cR (cR (cL (cR (cL (cR C25))))))) n call
noncomputable def R25_13 (n : Nat) (call : CallF) : TM → Defs → Heap → Nat → KX CRes → Option CRes := kCode (β := CRes) Tryz.prog 26 5 66977592 (cR (cR (cR (cL (cR (cL (cR C25))))))) n call
noncomputable def F25 (n : Nat) (call : CallF) (pb0 po0 : Nat) (h : Heap) (nx : Nat) : Option CRes :=
  R25_0 n call (.fn (tmL tm0 [(0, (.ptr pb0 po0))])) [] h nx (E25 n call)
theorem F25_eq {sp : Specs} (hsp : sp 25 = none) (n : Nat) (call : CallF) (pb0 po0 : Nat) (h : Heap) (nx : Nat) : callS Tryz.prog true sp locOfF n call 25 [(.ptr pb0 po0)] h nx = F25 n call pb0 po0 h nx :=
  (call_eq2 Tryz.func25 (c := C25) (N := 26) (dp := 5) (L := 66977592) (tm := (.fn (tmL tm0 [(0, (.ptr pb0 po0))]))) (by kernel_rfl) (by kernel_rfl) (by kernel_rfl) (by kernel_rfl) (by kernel_rfl) (by kernel_rfl) hsp n call h nx).trans (by kernel_rfl)
theorem R25_0_eq (n : Nat) (call : CallF) (f : Nat → Option AV) (df : Defs) (h : Heap) (nx : Nat) (K : KX CRes) : R25_0 n call (.fn f) df h nx K =
  R25_1 n call (.fn f) df h nx (kThen (R25_2 n call) K) :=
  (congrArg (fun c => kCode (β := CRes) Tryz.prog 26 5 66977592 c n call (.fn f) df h nx K) (show C25 = (.seq (cL C25) (cR C25)) by kernel_rfl)).trans (kCode_seq ..)
theorem R25_1_eq (n : Nat) (call : CallF) (f : Nat → Option AV) (df : Defs) (h : Heap) (nx : Nat) (K : KX CRes) : R25_1 n call (.fn f) df h nx K =
  K h nx .normal (.fn (tmL f [(2, (.bool false))])) df := by kernel_rfl
theorem R25_2_eq (n : Nat) (call : CallF) (f : Nat → Option AV) (df : Defs) (h : Heap) (nx : Nat) (K : KX CRes) : R25_2 n call (.fn f) df h nx K =
  R25_3 n call (.fn f) df h nx (kThen (R25_4 n call) K) :=
  (congrArg (fun c => kCode (β := CRes) Tryz.prog 26 5 66977592 c n call (.fn f) df h nx K) (show (cR C25) = (.seq (cL (cR C25)) (cR (cR C25))) by kernel_rfl)).trans (kCode_seq ..)
theorem R25_3_eq (n : Nat) (call : CallF) (f : Nat → Option AV) (df : Defs) (h : Heap) (nx : Nat) (K : KX CRes) : R25_3 n call (.fn f) df h nx K =
  R25_5 n call (.fn f) df h nx (kThen (R25_6 n call) K) :=
  (congrArg (fun c => kCode (β := CRes) Tryz.prog 26 5 66977592 c n call (.fn f) df h nx K) (show (cL (cR C25)) = (.seq (cL (cL (cR C25))) (cR (cL (cR C25)))) by kernel_rfl)).trans (kCode_seq ..)
theorem R25_4_eq (n : Nat) (call : CallF) (f : Nat → Option AV) (df : Defs) (h : Heap) (nx : Nat) (K : KX CRes) : R25_4 n call (.fn f) df h nx K =
  K h nx .ret (.fn (tmL f [(2, (.bool true))])) df := by kernel_rfl
theorem R25_5_eq (n : Nat) (call : CallF) (f : Nat → Option AV) (df : Defs) (h : Heap) (nx : Nat) (K : KX CRes) : R25_5 n call (.fn f) df h nx K =
  bd (f 0) fun v1 =>
  bd (rNilV v1) fun v2 =>
  bd (adr 0 v2) fun v3 =>
  bd (ld1 h v3) fun v4 =>
  K h nx .normal (.fn (tmL f [(6, v4)])) df := by kernel_rfl
theorem R25_6_eq (n : Nat) (call : CallF) (f : Nat → Option AV) (df : Defs) (h : Heap) (nx : Nat) (K : KX CRes) : R25_6 n call (.fn f) df h nx K =
  R25_7 n call (.fn f) df h nx (kLeave 0 K) :=
  (congrArg (fun c => kCode (β := CRes) Tryz.prog 26 5 66977592 c n call (.fn f) df h nx K) (show (cR (cL (cR C25))) = (.block 0 (cL (cR (cL (cR C25))))) by kernel_rfl)).trans (kCode_block ..)
theorem R25_7_eq (n : Nat) (call : CallF) (f : Nat → Option AV) (df : Defs) (h : Heap) (nx : Nat) (K : KX CRes) : R25_7 n call (.fn f) df h nx K =
  R25_8 n call (.fn f) df h nx (kThen (R25_9 n call) K) :=
  (congrArg (fun c => kCode (β := CRes) Tryz.prog 26 5 66977592 c n call (.fn f) df h nx K) (show (cL (cR (cL (cR C25)))) = (.seq (cL (cL (cR (cL (cR C25))))) (cR (cL (cR (cL (cR C25)))))) by kernel_rfl)).trans (kCode_seq ..)
theorem R25_8_eq (n : Nat) (call : CallF) (f : Nat → Option AV) (df : Defs) (h : Heap) (nx : Nat) (K : KX CRes) : R25_8 n call (.fn f) df h nx K =
  bd (bd (f 6) fun v5 => (binV .eql (eqT Tryz.prog 8 3) true (!(Tryz.prog.eqGuardType Tryz.prog.depth 3)) (.int .i64 26) v5)) fun v6 =>
  onBool v6 fun b7 => sl b7
  (K h nx .normal (.fn (tmL f [(7, v6)])) df)
  (bd (bd (f 6) fun v8 => (binV .eql (eqT Tryz.prog 8 3) true (!(Tryz.prog.eqGuardType Tryz.prog.depth 3)) (.int .i64 30) v8)) fun v9 =>
  onBool v9 fun b10 => sl b10
  (K h nx .normal (.fn (tmL f [(7, v9), (7, v6)])) df)
  (bd (bd (f 6) fun v11 => (binV .eql (eqT Tryz.prog 8 3) true (!(Tryz.prog.eqGuardType Tryz.prog.depth 3)) (.int .i64 29) v11)) fun v12 =>
  K h nx .normal (.fn (tmL f [(7, v12), (7, v9), (7, v6)])) df)) := by kernel_rfl
theorem R25_9_eq (n : Nat) (call : CallF) (f : Nat → Option AV) (df : Defs) (h : Heap) (nx : Nat) (K : KX CRes) : R25_9 n call (.fn f) df h nx K =
  (bd (f 7) fun v13 => onBool v13 fun b => sl b (R25_10 n call (.fn f) df h nx K) (R25_11 n call (.fn f) df h nx K)) :=
  (congrArg (fun c => kCode (β := CRes) Tryz.prog 26 5 66977592 c n call (.fn f) df h nx K) (show (cR (cL (cR (cL (cR C25))))) = (.cond (.tmp 7) (cL (cR (cL (cR (cL (cR C25)))))) (cR (cR (cL (cR (cL (cR C25))))))) by kernel_rfl)).trans (kCode_cond ..)
theorem R25_10_eq (n : Nat) (call : CallF) (f : Nat → Option AV) (df : Defs) (h : Heap) (nx : Nat) (K : KX CRes) : R25_10 n call (.fn f) df h nx K =
  bd (f 0) fun v14 =>
  bd (rNilV v14) fun v15 =>
  bd (adr 4 v15) fun v16 =>
  bd (ld1 h v16) fun v17 =>
  bd (lenSl v17) fun v18 =>
  bd (binV .geq (eqT Tryz.prog 8 3) true (!(Tryz.prog.eqGuardType Tryz.prog.depth 3)) (.int .i64 1) v18) fun v19 =>
  K h nx .ret (.fn (tmL f [(2, v19)])) df := by kernel_rfl
theorem R25_11_eq (n : Nat) (call : CallF) (f : Nat → Option AV) (df : Defs) (h : Heap) (nx : Nat) (K : KX CRes) : R25_11 n call (.fn f) df h nx K =
  R25_12 n call (.fn f) df h nx (kThen (R25_13 n call) K) :=
  (congrArg (fun c => kCode (β := CRes) Tryz.prog 26 5 66977592 c n call (.fn f) df h nx K) (show (cR (cR (cL (cR (cL (cR C25)))))) = (.seq (cL (cR (cR (cL (cR (cL (cR C25))))))) (cR (cR (cR (cL (cR (cL (cR C25)))))))) by kernel_rfl)).trans (kCode_seq ..)
theorem R25_12_eq (n : Nat) (call : CallF) (f : Nat → Option AV) (df : Defs) (h : Heap) (nx : Nat) (K : KX CRes) : R25_12 n call (.fn f) df h nx K =
  bd (bd (f 6) fun v20 => (binV .eql (eqT Tryz.prog 8 3) true (!(Tryz.prog.eqGuardType Tryz.prog.depth 3)) (.int .i64 27) v20)) fun v21 =>
  onBool v21 fun b22 => sl b22
  (K h nx .normal (.fn (tmL f [(17, v21)])) df)
  (bd (bd (f 6) fun v23 => (binV .eql (eqT Tryz.prog 8 3) true (!(Tryz.prog.eqGuardType Tryz.prog.depth 3)) (.int .i64 28) v23)) fun v24 =>
  K h nx .normal (.fn (tmL f [(17, v24), (17, v21)])) df) := by kernel_rfl
theorem R25_13_eq (n : Nat) (call : CallF) (f : Nat → Option AV) (df : Defs) (h : Heap) (nx : Nat) (K : KX CRes) : R25_13 n call (.fn f) df h nx K =
  (bd (f 17) fun v32 => onBool v32 fun b25 => sl b25
  (bd (f 0) fun v26 =>
  bd (rNilV v26) fun v27 =>
  bd (adr 4 v27) fun v28 =>
  bd (ld1 h v28) fun v29 =>
  bd (lenSl v29) fun v30 =>
  bd (binV .geq (eqT Tryz.prog 8 3) true (!(Tryz.prog.eqGuardType Tryz.prog.depth 3)) (.int .i64 2) v30) fun v31 =>
  K h nx .ret (.fn (tmL f [(2, v31)])) df)
  (K h nx .normal (.fn f) df)) := by kernel_rfl
theorem E25_normal (n : Nat) (call : CallF) (f : Nat → Option AV) (h : Heap) (nx : Nat) : E25 n call h nx .normal (.fn f) [] = retL [(f 2)] h nx := by kernel_rfl
theorem E25_ret (n : Nat) (call : CallF) (f : Nat → Option AV) (h : Heap) (nx : Nat) : E25 n call h nx .ret (.fn f) [] = retL [(f 2)] h nx := by kernel_rfl
theorem E25_pan (n : Nat) (call : CallF) (v : AV) (tm : TM) (h : Heap) (nx : Nat) : E25 n call h nx (.pan v) tm [] = some (.pan v h nx) := by kernel_rfl
end Go.Proofs.YtaajedkbaahgfaaGreatDoor

/-
Residual of function 26
-/
namespace Go.Proofs.YtaajedkbaahgfaaGreatDoor
open Go Go.AE
set_option maxRecDepth 100000
/-! touchstone/eval.stuck -/
noncomputable def C26 : Code := Tryz.f26.body.getD .skip
noncomputable def E26 (n : Nat) (call : CallF) : KX CRes := kEnd Tryz.prog true locOfF n call (mapL (rsVar Tryz.prog 2) Tryz.f26.results.toList)
noncomputable def F26 (n : Nat) (call : CallF) (h : Heap) (nx : Nat) : Option CRes :=
  letH (hset h nx (.cells [(.int .i64 0), (.str 0 0), (.str 0 0), (.int .i64 0), .nilslice, .nilptr, .nilptr])) (Nat.succ nx) fun h1 n2 =>
  bd (panR (.iface 54 (.agg [(.int .i64 8)])) h1 n2) (ares (fun v3 h4 n5 =>
  retL [(loadB (pkAgg 7) h4 nx 0)] h4 n5) (fun v6 h7 n8 => some (.pan v6 h7 n8)))
theorem F26_eq {sp : Specs} (hsp : sp 26 = none) (n : Nat) (call : CallF) (h : Heap) (nx : Nat) : callS Tryz.prog true sp locOfF n call 26 [] h nx = F26 n call h nx :=
  (call_eq2 Tryz.func26 (c := C26) (N := 3) (dp := 2) (L := 6) (tm := (.fn tm0)) (by kernel_rfl) (by kernel_rfl) (by kernel_rfl) (by kernel_rfl) (by kernel_rfl) (by kernel_rfl) hsp n call h nx).trans (by kernel_rfl)
theorem E26_normal (n : Nat) (call : CallF) (f : Nat → Option AV) (h : Heap) (nx : Nat) : E26 n call h nx .normal (.fn f) [] = retL [(bd (f 0) fun v9 => (ldA 7 h v9))] h nx := by kernel_rfl
theorem E26_ret (n : Nat) (call : CallF) (f : Nat → Option AV) (h : Heap) (nx : Nat) : E26 n call h nx .ret (.fn f) [] = retL [(bd (f 0) fun v9 => (ldA 7 h v9))] h nx := by kernel_rfl
theorem E26_pan (n : Nat) (call : CallF) (v : AV) (tm : TM) (h : Heap) (nx : Nat) : E26 n call h nx (.pan v) tm [] = some (.pan v h nx) := by kernel_rfl
end Go.Proofs.YtaajedkbaahgfaaGreatDoor

/-
Residual of function 54
-/
namespace Go.Proofs.YtaajedkbaahgfaaGreatDoor
open Go Go.AE
set_option maxRecDepth 100000
/-! (touchstone/eval.frame).find -/
noncomputable def C54 : Code := Tryz.f54.body.getD .skip
noncomputable def E54 (n : Nat) (call : CallF) : KX CRes := kEnd Tryz.prog true locOfF n call (mapL (rsVar Tryz.prog 5) Tryz.f54.results.toList)
noncomputable def R54_0 (n : Nat) (call : CallF) : TM → Defs → Heap → Nat → KX CRes → Option CRes := kCode (β := CRes) Tryz.prog 20 5 1032160 C54 n call
noncomputable def R54_1 (n : Nat) (call : CallF) : TM → Defs → Heap → Nat → KX CRes → Option CRes := kCode (β := CRes) Tryz.prog 20 5 1032160 (cL C54) n call
noncomputable def R54_2 (n : Nat) (call : CallF) : TM → Defs → Heap → Nat → KX CRes → Option CRes := kCode (β := CRes) Tryz.prog 20 5 1032160 (cR C54) n call
noncomputable def R54_3 (n : Nat) (call : CallF) : TM → Defs → Heap → Nat → KX CRes → Option CRes := kCode (β := CRes) Tryz.prog 20 5 1032160 (cL (cR C54)) n call
noncomputable def R54_4 (n : Nat) (call : CallF) : TM → Defs → Heap → Nat → KX CRes → Option CRes := kCode (β := CRes) Tryz.prog 20 5 1032160 (cR (cR C54)) n call
noncomputable def R54_5 (n : Nat) (call : CallF) : TM → Defs → Heap → Nat → KX CRes → Option CRes := kCode (β := CRes) Tryz.prog 20 5 1032160 (cL (cL (cR C54))) n call
noncomputable def R54_6 (n : Nat) (call : CallF) : TM → Defs → Heap → Nat → KX CRes → Option CRes := kCode (β := CRes) Tryz.prog 20 5 1032160 (cL (cL (cL (cR C54)))) n call
noncomputable def F54 (n : Nat) (call : CallF) (a0 : AV) (sn1 sx1 : Nat) (h : Heap) (nx : Nat) : Option CRes :=
  R54_0 n call (.fn (tmL tm0 [(1, (.str sn1 sx1)), (0, a0)])) [] h nx (E54 n call)
theorem F54_eq {sp : Specs} (hsp : sp 54 = none) (n : Nat) (call : CallF) (a0 : AV) (sn1 sx1 : Nat) (h : Heap) (nx : Nat) : callS Tryz.prog true sp locOfF n call 54 [a0, (.str sn1 sx1)] h nx = F54 n call a0 sn1 sx1 h nx :=
  (call_eq2 Tryz.func54 (c := C54) (N := 20) (dp := 5) (L := 1032160) (tm := (.fn (tmL tm0 [(1, (.str sn1 sx1)), (0, a0)]))) (by kernel_rfl) (by kernel_rfl) (by kernel_rfl) (by kernel_rfl) (by kernel_rfl) (by kernel_rfl) hsp n call h nx).trans (by kernel_rfl)
theorem R54_0_eq (n : Nat) (call : CallF) (f : Nat → Option AV) (df : Defs) (h : Heap) (nx : Nat) (K : KX CRes) : R54_0 n call (.fn f) df h nx K =
  R54_1 n call (.fn f) df h nx (kThen (R54_2 n call) K) :=
  (congrArg (fun c => kCode (β := CRes) Tryz.prog 20 5 1032160 c n call (.fn f) df h nx K) (show C54 = (.seq (cL C54) (cR C54)) by kernel_rfl)).trans (kCode_seq ..)
theorem R54_1_eq (n : Nat) (call : CallF) (f : Nat → Option AV) (df : Defs) (h : Heap) (nx : Nat) (K : KX CRes) : R54_1 n call (.fn f) df h nx K =
  K h nx .normal (.fn (tmL f [(4, .nilptr)])) df := by kernel_rfl
theorem R54_2_eq (n : Nat) (call : CallF) (f : Nat → Option AV) (df : Defs) (h : Heap) (nx : Nat) (K : KX CRes) : R54_2 n call (.fn f) df h nx K =
  R54_3 n call (.fn f) df h nx (kThen (R54_4 n call) K) :=
  (congrArg (fun c => kCode (β := CRes) Tryz.prog 20 5 1032160 c n call (.fn f) df h nx K) (show (cR C54) = (.seq (cL (cR C54)) (cR (cR C54))) by kernel_rfl)).trans (kCode_seq ..)
theorem R54_3_eq (n : Nat) (call : CallF) (f : Nat → Option AV) (df : Defs) (h : Heap) (nx : Nat) (K : KX CRes) : R54_3 n call (.fn f) df h nx K =
  R54_5 n call (.fn f) df h nx (kLeave 0 K) :=
  (congrArg (fun c => kCode (β := CRes) Tryz.prog 20 5 1032160 c n call (.fn f) df h nx K) (show (cL (cR C54)) = (.block 0 (cL (cL (cR C54)))) by kernel_rfl)).trans (kCode_block ..)
theorem R54_4_eq (n : Nat) (call : CallF) (f : Nat → Option AV) (df : Defs) (h : Heap) (nx : Nat) (K : KX CRes) : R54_4 n call (.fn f) df h nx K =
  bd (f 0) fun v1 =>
  K h nx .ret (.fn (tmL f [(4, v1)])) df := by kernel_rfl
theorem R54_5_eq (n : Nat) (call : CallF) (f : Nat → Option AV) (df : Defs) (h : Heap) (nx : Nat) (K : KX CRes) : R54_5 n call (.fn f) df h nx K =
  kLoop (R54_6 n call) n (.fn f) df h nx K :=
  (congrArg (fun c => kCode (β := CRes) Tryz.prog 20 5 1032160 c n call (.fn f) df h nx K) (show (cL (cL (cR C54))) = (.loop (cL (cL (cL (cR C54))))) by kernel_rfl)).trans (kCode_loop ..)
theorem R54_6_eq (n : Nat) (call : CallF) (f : Nat → Option AV) (df : Defs) (h : Heap) (nx : Nat) (K : KX CRes) : R54_6 n call (.fn f) df h nx K =
  bd (f 0) fun v2 =>
  bd (binV .neq (eqT Tryz.prog 8 57) true (!(Tryz.prog.eqGuardType Tryz.prog.depth 57)) .nilptr v2) fun v3 =>
  bd (wantV true v3) fun b4 => bd (sl b4 ((f 0)) (some (.tuple []))) fun v5 =>
  bd (wantV true v3) fun b6 => bd (sl b6 ((rNilV v5)) (some (.tuple []))) fun v7 =>
  bd (wantV true v3) fun b8 => bd (sl b8 ((adr 0 v7)) (some (.tuple []))) fun v9 =>
  bd (wantV true v3) fun b10 => bd (sl b10 ((ld1 h v9)) (some (.tuple []))) fun v11 =>
  bd (wantV true v3) fun b12 => bd (sl b12 ((f 1)) (some (.tuple []))) fun v13 =>
  bd (wantV true v3) fun b14 => bd (sl b14 ((binV .neq (eqT Tryz.prog 8 9) false (!(Tryz.prog.eqGuardType Tryz.prog.depth 9)) v13 v11)) (some (.tuple []))) fun v15 =>
  bd (pickV v3 v15 (.bool false)) fun v16 =>
  onBool v16 fun b17 => sl b17
  (bd (f 0) fun v18 =>
  bd (rNilV v18) fun v19 =>
  bd (adr 9 v19) fun v20 =>
  bd (ld1 h v20) fun v21 =>
  K h nx .normal (.fn (tmL f [(0, v21), (14, v16)])) df)
  (K h nx (.exit 0) (.fn (tmL f [(14, v16)])) df) := by kernel_rfl
theorem E54_normal (n : Nat) (call : CallF) (f : Nat → Option AV) (h : Heap) (nx : Nat) : E54 n call h nx .normal (.fn f) [] = retL [(f 4)] h nx := by kernel_rfl
theorem E54_ret (n : Nat) (call : CallF) (f : Nat → Option AV) (h : Heap) (nx : Nat) : E54 n call h nx .ret (.fn f) [] = retL [(f 4)] h nx := by kernel_rfl
theorem E54_pan (n : Nat) (call : CallF) (v : AV) (tm : TM) (h : Heap) (nx : Nat) : E54 n call h nx (.pan v) tm [] = some (.pan v h nx) := by kernel_rfl
end Go.Proofs.YtaajedkbaahgfaaGreatDoor

/-
The runs of the law's functions; memory between them; a machine's step.
-/
namespace Go.Proofs.YtaajedkbaahgfaaGreatDoor
open Go Go.AE Go.EV

/-- the law's example, summed up -/
noncomputable def aliveA : List AV → Heap → Nat → Option CRes := fun l h nx => List.rec (motive := fun _ => Option CRes) (some (.ret (.bool true) h nx)) (fun _ _ _ => none) l
noncomputable def spL : Specs := fun f => sel (Nat.beq f 145) (some countStringA) (sel (Nat.beq f 6) (some aliveA) none)
/-- the runs -/
noncomputable abbrev CN (n d : Nat) : CallF := callN Tryz.prog true spL locOfF n d
theorem CN_to {n d : Nat} {f : FuncId} {l : List AV} {h : Heap} {nx : Nat} {r : Option CRes} (hr : callS Tryz.prog true spL locOfF n (CN n d) f l h nx = r) : CN n (d + 1) f l h nx = r := hr
/-- a run comes to an answer -/
def Rn (f : FuncId) (l : List AV) (h : Heap) (nx : Nat) (r : CRes) : Prop := Ev (fun n d => CN n d f l h nx) r
theorem Rn.of {f : FuncId} {l : List AV} {h : Heap} {nx : Nat} {r : CRes} {g : Nat → Nat → Option CRes} (hg : ∀ n d, callS Tryz.prog true spL locOfF n (CN n d) f l h nx = g n d) (hr : Ev g r) : Rn f l h nx r :=
  Ev.deeper (fun n d => CN_to (hg n d)) hr

theorem eqI_ne {a b : Int} (h : a ≠ b) : eqI a b = false := by rw [eqI_eq]; simpa using h
theorem eqI_dec (a b : Int) : eqI a b = decide (a = b) := by
  by_cases h : a = b
  · subst h; rw [eqI_refl]; simp
  · rw [eqI_ne h]; simp [h]
theorem add_small {a b : Int} (ha : 0 ≤ a) (hb : 0 ≤ b) (h : a + b < 9223372036854775808) : wrapF .i64 (addI a b) = a + b := by
  obtain ⟨m, rfl⟩ := Int.eq_ofNat_of_zero_le ha
  obtain ⟨k, rfl⟩ := Int.eq_ofNat_of_zero_le hb
  show sel (Nat.blt (m + k) (top .i64)) (Int.ofNat (m + k)) (IntKind.wrap .i64 (Int.ofNat (m + k))) = ((m : Int) + (k : Int))
  have : Nat.blt (m + k) (top .i64) = true := by
    rw [Nat.blt_eq]
    show m + k < 9223372036854775808
    omega
  rw [this]; rfl

theorem putCells_ok' {h : Heap} {b o n : Nat} {vs cs cs' : List AV} (hn : vs.length = n) (hone : allOne vs = true) (hro : hro h b = false) (hb : hget h b = some (.cells cs)) (hs : lsplice o vs cs = some cs') :
    putCells h b o n vs = some (hset h b (.cells cs')) := by
  unfold putCells
  have e1 : Nat.beq (llen vs) n = true := by rw [llen_eq, hn]; exact Nat.beq_refl n
  rw [e1, hone, hro, hb]
  show ob (lsplice o vs cs) _ = _
  rw [hs]
theorem hget_set (h : Heap) (a b : Nat) (x : Blk) : hget (hset h a x) b = if b = a then some x else hget h b := by
  by_cases e : b = a
  · subst e; rw [hget_hset, if_pos rfl]
  · rw [hget_hset_ne (hok b) (hok a) e, if_neg e]
theorem hro_hset (h : Heap) (a b : Nat) (x : Blk) : hro (hset h a x) b = hro h b := hro_of_lo (hset_lo h a x) b
theorem hro_high {h : Heap} {b : Nat} (hb : h.lo ≤ b) : hro h b = false := by
  unfold hro
  have : Nat.blt b h.lo = false := by
    cases hq : Nat.blt b h.lo with
    | false => rfl
    | true => have := natBlt hq; omega
  rw [this]
  cases notB (low b) <;> rfl

/-! ## What stands fast -/
/-- memory that holds what stands fast; 'm': a block that may turn -/
structure Mem (h : Heap) (nx m : Nat) (σ : Sto) : Prop where
  sat : ∀ b x, σ b = some x → hget h b = some x
  dom : ∀ b x, σ b = some x → b < nx
  mn : σ m = none
  lo : h.lo ≤ nx
  mlt : m < nx
/-- from one memory to a later one -/
structure Later (h : Heap) (nx m : Nat) (σ : Sto) (h' : Heap) (nx' : Nat) (σ' : Sto) : Prop where
  mem : Mem h' nx' m σ'
  le : nx ≤ nx'
  old : ∀ b, b < nx → b ≠ m → hget h' b = hget h b
  lo : h'.lo = h.lo
  sle : Sto.le σ σ'
  sold : ∀ b, b < nx → σ' b = σ b
theorem Later.refl {h : Heap} {nx m : Nat} {σ : Sto} (hm : Mem h nx m σ) : Later h nx m σ h nx σ := ⟨hm, Nat.le_refl _, fun _ _ _ => rfl, rfl, fun _ _ h => h, fun _ _ => rfl⟩
theorem Later.trans {h h1 h2 : Heap} {nx nx1 nx2 m : Nat} {σ σ1 σ2 : Sto} (a : Later h nx m σ h1 nx1 σ1) (b : Later h1 nx1 m σ1 h2 nx2 σ2) : Later h nx m σ h2 nx2 σ2 :=
  ⟨b.mem, Nat.le_trans a.le b.le, fun x hx hm => (b.old x (Nat.lt_of_lt_of_le hx a.le) hm).trans (a.old x hx hm), b.lo.trans a.lo, fun x y h => b.sle _ _ (a.sle _ _ h), fun x hx => (b.sold x (Nat.lt_of_lt_of_le hx a.le)).trans (a.sold x hx)⟩
/-- a block is made, and not spoken of -/
theorem Mem.alloc {h : Heap} {nx m : Nat} {σ : Sto} (hm : Mem h nx m σ) {id nx' : Nat} {x : Blk} (hid : nx ≤ id) (hn : id < nx') : Later h nx m σ (hset h id x) nx' σ := by
  refine ⟨⟨fun b y hb => ?_, fun b y hb => ?_, hm.mn, ?_, by have := hm.mlt; omega⟩, by omega, fun b hb _ => ?_, hset_lo _ _ _, fun _ _ h => h, fun _ _ => rfl⟩
  · have := hm.dom b y hb
    rw [hget_set, if_neg (by omega)]; exact hm.sat b y hb
  · have := hm.dom b y hb; omega
  · rw [hset_lo]; have := hm.lo; omega
  · rw [hget_set, if_neg (by omega)]
/-- a block that is not spoken of is written -/
theorem Mem.write {h : Heap} {nx m : Nat} {σ : Sto} (hm : Mem h nx m σ) {id : Nat} {x : Blk} (hid : σ id = none) : Mem (hset h id x) nx m σ := by
  refine ⟨fun b y hb => ?_, hm.dom, hm.mn, by rw [hset_lo]; exact hm.lo, hm.mlt⟩
  rw [hget_set, if_neg (fun e => by rw [e, hid] at hb; cases hb)]; exact hm.sat b y hb
/-- a block is spoken of from now on -/
noncomputable def sput (σ : Sto) (id : Nat) (x : Blk) : Sto := fun b => if b = id then some x else σ b
theorem sput_self (σ : Sto) (id : Nat) (x : Blk) : sput σ id x id = some x := by simp [sput]
theorem sput_le {σ : Sto} {id : Nat} {x : Blk} (h : σ id = none) : Sto.le σ (sput σ id x) := by
  intro b y hb
  have : b ≠ id := fun e => by rw [e, h] at hb; cases hb
  simp [sput, this, hb]
theorem Mem.speak {h : Heap} {nx m : Nat} {σ : Sto} (hm : Mem h nx m σ) {id : Nat} {x : Blk} (hg : hget h id = some x) (hid : id < nx) (hne : id ≠ m) : Mem h nx m (sput σ id x) := by
  refine ⟨fun b y hb => ?_, fun b y hb => ?_, ?_, hm.lo, hm.mlt⟩
  · unfold sput at hb
    split at hb
    · rename_i e; subst e; cases hb; exact hg
    · exact hm.sat b y hb
  · unfold sput at hb
    split at hb
    · rename_i e; subst e; exact hid
    · exact hm.dom b y hb
  · unfold sput; rw [if_neg (Ne.symm hne)]; exact hm.mn
theorem Mem.more {h : Heap} {nx nx' m : Nat} {σ : Sto} (hm : Mem h nx m σ) (hn : nx ≤ nx') : Later h nx m σ h nx' σ :=
  ⟨⟨hm.sat, fun b x hb => Nat.lt_of_lt_of_le (hm.dom b x hb) hn, hm.mn, Nat.le_trans hm.lo hn, Nat.lt_of_lt_of_le hm.mlt hn⟩, hn, fun _ _ _ => rfl, rfl, fun _ _ h => h, fun _ _ => rfl⟩
/-- a block is made, and spoken of -/
theorem Mem.make {h : Heap} {nx m : Nat} {σ : Sto} (hm : Mem h nx m σ) {id nx' : Nat} (x : Blk) (hid : nx ≤ id) (hn : id < nx') : Later h nx m σ (hset h id x) nx' (sput σ id x) := by
  have a := hm.alloc (x := x) hid hn
  have hs : σ id = none := by
    cases hq : σ id with
    | none => rfl
    | some y => have := hm.dom _ _ hq; omega
  exact ⟨a.mem.speak (by rw [hget_set, if_pos rfl]) hn (by have := hm.mlt; omega), a.le, a.old, a.lo, sput_le hs, fun b hb => by unfold sput; rw [if_neg (by omega)]⟩
/-- a block that is not spoken of is written: told from before it was made -/
theorem Later.write {h h' : Heap} {nx nx' m : Nat} {σ σ' : Sto} (L : Later h nx m σ h' nx' σ') {id : Nat} (x : Blk) (hid : nx ≤ id) (hs : σ' id = none) : Later h nx m σ (hset h' id x) nx' σ' :=
  ⟨L.mem.write hs, L.le, fun b hb hm => by rw [hget_set, if_neg (by omega)]; exact L.old b hb hm, by rw [hset_lo]; exact L.lo, L.sle, L.sold⟩
/-- .. and spoken of -/
theorem Later.put {h h' : Heap} {nx nx' m : Nat} {σ σ' : Sto} (L : Later h nx m σ h' nx' σ') {id : Nat} (x : Blk) (hid : nx ≤ id) (hn : id < nx') (hs : σ' id = none) (hm : m < nx) : Later h nx m σ (hset h' id x) nx' (sput σ' id x) :=
  ⟨(L.mem.write hs).speak (by rw [hget_set, if_pos rfl]) hn (by omega), L.le, fun b hb hm => by rw [hget_set, if_neg (by omega)]; exact L.old b hb hm, by rw [hset_lo]; exact L.lo,
    fun b y hb => sput_le hs b y (L.sle b y hb), fun b hb => by unfold sput; rw [if_neg (by omega)]; exact L.sold b hb⟩

/-! ## A term's cells -/
theorem cell_take {cs l : List AV} {o n : Nat} (h : (cs.drop o).take n = l) {k : Nat} (hk : k < n) : cs[o + k]? = l[k]? := by
  subst h
  rw [List.getElem?_take, if_pos hk, List.getElem?_drop]
theorem rdt_inv {B : Nat} {σ : Sto} {t : Tm} {l : List AV} (h : RdTB B σ t l) : ∃ ks, l = [.int .i64 t.kind, .str t.pkg.1 t.pkg.2, .str t.name.1 t.name.2, .int .i64 t.n, ks] ∧ RdKsB B σ t.kids ks := by
  cases h with
  | mk k p s n kids ks h => exact ⟨ks, rfl, h⟩
structure TmAtB (B : Nat) (h : Heap) (σ : Sto) (t : Tm) (b o : Nat) (cs : List AV) (ks : AV) : Prop where
  get : hget h b = some (.cells cs)
  c0 : cs[o]? = some (.int .i64 t.kind)
  c1 : cs[o + 1]? = some (.str t.pkg.1 t.pkg.2)
  c2 : cs[o + 2]? = some (.str t.name.1 t.name.2)
  c3 : cs[o + 3]? = some (.int .i64 t.n)
  c4 : cs[o + 4]? = some ks
  kids : RdKsB B σ t.kids ks
abbrev TmAt (h : Heap) (σ : Sto) (t : Tm) (b o : Nat) (cs : List AV) (ks : AV) := TmAtB 4611686018427387904 h σ t b o cs ks
theorem rdp_at {B : Nat} {h : Heap} {nx m : Nat} {σ : Sto} (hm : Mem h nx m σ) {t : Tm} {b o : Nat} (hp : RdPB B σ t b o) : ∃ cs ks, TmAtB B h σ t b o cs ks := by
  obtain ⟨cs, hb, ht⟩ := hp
  obtain ⟨ks, hl, hk⟩ := rdt_inv ht
  have g := fun k hk => (cell_take (n := 5) rfl (k := k) hk).trans (congrArg (·[k]?) hl)
  exact ⟨cs, ks, hm.sat b _ hb, g 0 (by omega), g 1 (by omega), g 2 (by omega), g 3 (by omega), g 4 (by omega), hk⟩

/-! ## A machine's step -/
theorem sp24 : spL 24 = none := rfl
theorem sp26 : spL 26 = none := rfl
theorem step_ok {h : Heap} {nx m : Nat} {lets : AV} {st most : Int} (hm : hget h m = some (.cells [lets, .int .i64 st, .int .i64 most])) (hr : hro h m = false) (hne : st ≠ most) (h0 : 0 ≤ st) (hlt : st < 20000) :
    Rn 24 [.ptr m 0] h nx (.ret (.tuple []) (hset h m (.cells [lets, .int .i64 (st + 1), .int .i64 most])) (nx + 9)) := by
  refine Rn.of (f := 24) (l := [.ptr m 0]) (g := fun n d => F24 n (CN n d) m 0 h nx) (fun n d => F24_eq sp24 n (CN n d) m 0 h nx) (Ev.pure fun n d => ?_)
  show F24 n (CN n d) m 0 h nx = _
  have hadd := add_small h0 (b := 1) (by omega) (by omega)
  have hput : putCells h m 1 1 [.int .i64 (st + 1)] = some (hset h m (.cells [lets, .int .i64 (st + 1), .int .i64 most])) := putCells_ok' rfl rfl hr hm rfl
  unfold F24
  repeat (first | simp -eta only [SY, ↓reduceIte, Nat.reduceEqDiff, Nat.reduceAdd, r_loadB _ _ hm, eqI_ne hne, hadd, hput] | simp -eta only [KY, ↓reduceIte, Nat.reduceEqDiff, R24_0_eq, R24_1_eq, R24_2_eq, E24_normal, E24_pan])
theorem step_lim {h : Heap} {nx m : Nat} {lets : AV} {most : Int} (hm : hget h m = some (.cells [lets, .int .i64 most, .int .i64 most])) :
    Rn 24 [.ptr m 0] h nx (.pan (.iface 54 (.agg [.int .i64 9])) h (nx + 9)) := by
  refine Rn.of (f := 24) (l := [.ptr m 0]) (g := fun n d => F24 n (CN n d) m 0 h nx) (fun n d => F24_eq sp24 n (CN n d) m 0 h nx) (Ev.pure fun n d => ?_)
  show F24 n (CN n d) m 0 h nx = _
  unfold F24
  repeat (first | simp -eta only [SY, ↓reduceIte, Nat.reduceEqDiff, Nat.reduceAdd, r_loadB _ _ hm, eqI_refl] | simp -eta only [KY, ↓reduceIte, Nat.reduceEqDiff, R24_0_eq, R24_1_eq, E24_normal, E24_pan])
theorem stuck_ok (h : Heap) (nx : Nat) : ∃ h' nx', Rn 26 [] h nx (.pan (.iface 54 (.agg [.int .i64 8])) h' nx') ∧ nx ≤ nx' ∧ (∀ b, b < nx → hget h' b = hget h b) ∧ h'.lo = h.lo := by
  refine ⟨hset h nx (.cells [.int .i64 0, .str 0 0, .str 0 0, .int .i64 0, .nilslice, .nilptr, .nilptr]), nx + 1, ?_, by omega, fun b hb => ?_, hset_lo _ _ _⟩
  · refine Rn.of (f := 26) (l := []) (g := fun n d => F26 n (CN n d) h nx) (fun n d => F26_eq sp26 n (CN n d) h nx) (Ev.pure fun n d => ?_)
    show F26 n (CN n d) h nx = _
    unfold F26
    repeat (first | simp -eta only [SY, ↓reduceIte, Nat.reduceEqDiff, Nat.reduceAdd] | simp -eta only [KY, ↓reduceIte, Nat.reduceEqDiff])
  · rw [hget_set, if_neg (by omega)]
end Go.Proofs.YtaajedkbaahgfaaGreatDoor

/-
What the functions of the law answer: fits, find.
-/
namespace Go.Proofs.YtaajedkbaahgfaaGreatDoor
open Go Go.AE Go.EV

theorem sp25 : spL 25 = none := rfl
theorem sp54 : spL 54 = none := rfl
theorem sp55 : spL 55 = none := rfl

theorem ltI_dec (a b : Int) : ltI a b = decide (a < b) := by
  cases a with
  | ofNat m => cases b with
    | ofNat n =>
      show Nat.blt m n = decide ((m : Int) < (n : Int))
      rw [Bool.eq_iff_iff]
      simp [Nat.blt_eq]
    | negSucc n =>
      show false = decide ((m : Int) < Int.negSucc n)
      simp; omega
  | negSucc m => cases b with
    | ofNat n =>
      show true = decide (Int.negSucc m < (n : Int))
      simp; omega
    | negSucc n =>
      show Nat.blt n m = decide (Int.negSucc m < Int.negSucc n)
      rw [Bool.eq_iff_iff]
      simp [Nat.blt_eq]; omega
theorem nt_dec (p : Prop) [Decidable p] : nt (decide p) = decide (¬ p) := by
  by_cases h : p <;> simp [h, nt, notB]
theorem nt_true : nt true = false := rfl
theorem nt_false : nt false = true := rfl

/-- a slice's length -/
theorem rdks_len {B : Nat} {σ : Sto} {kids : List Tm} {ks : AV} (h : RdKsB B σ kids ks) : lenSl ks = some (.int .i64 (kids.length : Int)) := by
  cases h with
  | nil => rfl
  | row b o cap cs hb hl h => rfl
theorem nt_lt (a b : Int) : nt (ltI a b) = decide (b ≤ a) := by
  rw [ltI_dec, nt_dec]
  by_cases h : b ≤ a
  · rw [decide_eq_true h, decide_eq_true (by omega)]
  · rw [decide_eq_false h, decide_eq_false (by omega)]
theorem ge1 (n : Nat) : nt (ltI (n : Int) 1) = decide (1 ≤ n) := by
  rw [nt_lt]; congr 1; simp; omega
theorem ge2 (n : Nat) : nt (ltI (n : Int) 2) = decide (2 ≤ n) := by
  rw [nt_lt]; congr 1; simp; omega

theorem fits_ok {h : Heap} {nx m : Nat} {σ : Sto} (hm : Mem h nx m σ) {t : Tm} {b o : Nat} (hp : RdP σ t b o) : Rn 25 [.ptr b o] h nx (.ret (.bool (fits t)) h nx) := by
  obtain ⟨cs, ks, ht⟩ := rdp_at hm hp
  refine Rn.of (f := 25) (l := [.ptr b o]) (g := fun n d => F25 n (CN n d) b o h nx) (fun n d => F25_eq sp25 n (CN n d) b o h nx) (Ev.pure fun n d => ?_)
  show F25 n (CN n d) b o h nx = _
  have hl := rdks_len ht.kids
  have d1 := ge1 t.kids.length
  have d2 := ge2 t.kids.length
  unfold fits F25
  by_cases h1 : t.kind = 26
  · have e1 : eqI t.kind 26 = true := by rw [h1]; exact eqI_refl _
    rw [if_pos h1]
    repeat (first | simp -eta only [SY, ↓reduceIte, Nat.reduceEqDiff, Nat.reduceAdd, r_loadB _ _ ht.get, ht.c0, ht.c4, e1, hl, d1] | simp -eta only [KY, ↓reduceIte, Nat.reduceEqDiff, R25_0_eq, R25_1_eq, R25_2_eq, R25_3_eq, R25_4_eq, R25_5_eq, R25_6_eq, R25_7_eq, R25_8_eq, R25_9_eq, R25_10_eq, R25_11_eq, R25_12_eq, R25_13_eq, E25_normal, E25_ret, E25_pan])
  rw [if_neg h1]
  have e1 := eqI_ne h1
  by_cases h2 : t.kind = 30
  · have e2 : eqI t.kind 30 = true := by rw [h2]; exact eqI_refl _
    rw [if_pos h2]
    repeat (first | simp -eta only [SY, ↓reduceIte, Nat.reduceEqDiff, Nat.reduceAdd, r_loadB _ _ ht.get, ht.c0, ht.c4, e1, e2, hl, d1] | simp -eta only [KY, ↓reduceIte, Nat.reduceEqDiff, R25_0_eq, R25_1_eq, R25_2_eq, R25_3_eq, R25_4_eq, R25_5_eq, R25_6_eq, R25_7_eq, R25_8_eq, R25_9_eq, R25_10_eq, R25_11_eq, R25_12_eq, R25_13_eq, E25_normal, E25_ret, E25_pan])
  rw [if_neg h2]
  have e2 := eqI_ne h2
  by_cases h3 : t.kind = 29
  · have e3 : eqI t.kind 29 = true := by rw [h3]; exact eqI_refl _
    rw [if_pos h3]
    repeat (first | simp -eta only [SY, ↓reduceIte, Nat.reduceEqDiff, Nat.reduceAdd, r_loadB _ _ ht.get, ht.c0, ht.c4, e1, e2, e3, hl, d1] | simp -eta only [KY, ↓reduceIte, Nat.reduceEqDiff, R25_0_eq, R25_1_eq, R25_2_eq, R25_3_eq, R25_4_eq, R25_5_eq, R25_6_eq, R25_7_eq, R25_8_eq, R25_9_eq, R25_10_eq, R25_11_eq, R25_12_eq, R25_13_eq, E25_normal, E25_ret, E25_pan])
  rw [if_neg h3]
  have e3 := eqI_ne h3
  by_cases h4 : t.kind = 27
  · have e4 : eqI t.kind 27 = true := by rw [h4]; exact eqI_refl _
    rw [if_pos h4]
    repeat (first | simp -eta only [SY, ↓reduceIte, Nat.reduceEqDiff, Nat.reduceAdd, r_loadB _ _ ht.get, ht.c0, ht.c4, e1, e2, e3, e4, hl, d2] | simp -eta only [KY, ↓reduceIte, Nat.reduceEqDiff, R25_0_eq, R25_1_eq, R25_2_eq, R25_3_eq, R25_4_eq, R25_5_eq, R25_6_eq, R25_7_eq, R25_8_eq, R25_9_eq, R25_10_eq, R25_11_eq, R25_12_eq, R25_13_eq, E25_normal, E25_ret, E25_pan])
  rw [if_neg h4]
  have e4 := eqI_ne h4
  by_cases h5 : t.kind = 28
  · have e5 : eqI t.kind 28 = true := by rw [h5]; exact eqI_refl _
    rw [if_pos h5]
    repeat (first | simp -eta only [SY, ↓reduceIte, Nat.reduceEqDiff, Nat.reduceAdd, r_loadB _ _ ht.get, ht.c0, ht.c4, e1, e2, e3, e4, e5, hl, d2] | simp -eta only [KY, ↓reduceIte, Nat.reduceEqDiff, R25_0_eq, R25_1_eq, R25_2_eq, R25_3_eq, R25_4_eq, R25_5_eq, R25_6_eq, R25_7_eq, R25_8_eq, R25_9_eq, R25_10_eq, R25_11_eq, R25_12_eq, R25_13_eq, E25_normal, E25_ret, E25_pan])
  rw [if_neg h5]
  have e5 := eqI_ne h5
  repeat (first | simp -eta only [SY, ↓reduceIte, Nat.reduceEqDiff, Nat.reduceAdd, r_loadB _ _ ht.get, ht.c0, ht.c4, e1, e2, e3, e4, e5, hl, d2] | simp -eta only [KY, ↓reduceIte, Nat.reduceEqDiff, R25_0_eq, R25_1_eq, R25_2_eq, R25_3_eq, R25_4_eq, R25_5_eq, R25_6_eq, R25_7_eq, R25_8_eq, R25_9_eq, R25_10_eq, R25_11_eq, R25_12_eq, R25_13_eq, E25_normal, E25_ret, E25_pan])
end Go.Proofs.YtaajedkbaahgfaaGreatDoor

/-
What the functions of the law answer: find.
-/
namespace Go.Proofs.YtaajedkbaahgfaaGreatDoor
open Go Go.AE Go.EV
set_option maxRecDepth 100000

theorem eq57 : eqT Tryz.prog 8 57 = ⟨eqPtrF⟩ := by kernel_rfl
theorem eq52 : eqT Tryz.prog 8 52 = ⟨eqPtrF⟩ := by kernel_rfl

/-- a frame's cells -/
structure FrAt (h : Heap) (s : Str) (b : Nat) (cs l : List AV) (rv uv : AV) : Prop where
  get : hget h b = some (.cells cs)
  name : cs[0]? = some (.str s.1 s.2)
  is : (cs.drop 1).take 7 = l
  len : l.length = 7
  rcv : cs[8]? = some rv
  up : cs[9]? = some uv
theorem rdv_len {σ : Sto} {v : Vl} {l : List AV} (h : RdV σ v l) : l.length = 7 := by cases h; rfl
theorem rde_at {h : Heap} {nx m : Nat} {σ : Sto} (hm : Mem h nx m σ) {s : Str} {v : Vl} {rc : Option Tm} {up : List Fr} {e : AV} (he : RdE σ (.mk s v rc :: up) e) :
    ∃ b cs l rv uv, e = .ptr b 0 ∧ FrAt h s b cs l rv uv ∧ RdV σ v l ∧ RdO σ rc rv ∧ RdE σ up uv := by
  cases he with
  | cons s v rc up b l rv uv hb hv hr hu =>
    have hl := rdv_len hv
    refine ⟨b, _, l, rv, uv, rfl, ⟨hm.sat b _ hb, rfl, ?_, hl, ?_, ?_⟩, hv, hr, hu⟩
    · show ((l ++ [rv, uv]).take 7) = l
      rw [List.take_append_of_le_length (by omega), List.take_of_length_le (by omega)]
    · show (l ++ [rv, uv])[7]? = _
      rw [List.getElem?_append_right (by omega), hl]; rfl
    · show (l ++ [rv, uv])[8]? = _
      rw [List.getElem?_append_right (by omega), hl]; rfl

theorem find_loop {h : Heap} {nx m : Nat} {σ : Sto} (hm : Mem h nx m σ) (name : Str) : ∀ (env : List Fr) (e : AV) (j : Nat) (f : Nat → Option AV), RdE σ env e → f 0 = some e → f 1 = some (.str name.1 name.2) →
    ∃ e', RdE σ (findF name env) e' ∧ Ev (fun n d => kLoop (R54_6 n (CN n d)) (n - j) (.fn f) [] h nx (kLeave 0 (kThen (R54_4 n (CN n d)) (E54 n (CN n d))))) (.ret e' h nx) := by
  intro env
  induction env with
  | nil =>
    intro e j f he h0 h1
    cases he
    refine ⟨.nilptr, .nil, ?_⟩
    refine Ev.round (B := fun n d => R54_6 n (CN n d)) (tm := fun _ _ => .fn f) (K := fun n d => kLeave 0 (kThen (R54_4 n (CN n d)) (E54 n (CN n d)))) ?_
    refine Ev.pure fun n d => ?_
    repeat (first | simp -eta only [SY, ↓reduceIte, Nat.reduceEqDiff, Nat.reduceAdd, h0, h1, eq57] | simp -eta only [KY, ↓reduceIte, Nat.reduceEqDiff, R54_0_eq, R54_1_eq, R54_2_eq, R54_3_eq, R54_4_eq, R54_5_eq, R54_6_eq, E54_normal, E54_ret, E54_pan])
  | cons fr up ih =>
    intro e j f he h0 h1
    obtain ⟨s, v, rc⟩ := fr
    obtain ⟨b, cs, l, rv, uv, rfl, hf, hv, hr, hu⟩ := rde_at hm he
    by_cases hs : seq s name = true
    · refine ⟨.ptr b 0, ?_, ?_⟩
      · unfold findF; rw [if_pos (show seq (Fr.mk s v rc).name name = true from hs)]; exact he
      refine Ev.round (B := fun n d => R54_6 n (CN n d)) (tm := fun _ _ => .fn f) (K := fun n d => kLeave 0 (kThen (R54_4 n (CN n d)) (E54 n (CN n d)))) ?_
      refine Ev.pure fun n d => ?_
      repeat (first | simp -eta only [SY, ↓reduceIte, Nat.reduceEqDiff, Nat.reduceAdd, h0, h1, eq57, r_loadB _ _ hf.get, hf.name, seq_eq, hs] | simp -eta only [KY, ↓reduceIte, Nat.reduceEqDiff, R54_0_eq, R54_1_eq, R54_2_eq, R54_3_eq, R54_4_eq, R54_5_eq, R54_6_eq, E54_normal, E54_ret, E54_pan])
    · have hs : seq s name = false := by simpa using hs
      obtain ⟨e', he', hrun⟩ := ih uv (j + 1) (tmL f [(0, uv), (14, .bool true)]) hu rfl h1
      refine ⟨e', ?_, ?_⟩
      · unfold findF; rw [if_neg (by simp [Fr.name, hs])]; exact he'
      refine Ev.round (B := fun n d => R54_6 n (CN n d)) (tm := fun _ _ => .fn f) (K := fun n d => kLeave 0 (kThen (R54_4 n (CN n d)) (E54 n (CN n d)))) ?_
      repeat (first | simp -eta only [SY, ↓reduceIte, Nat.reduceEqDiff, Nat.reduceAdd, h0, h1, eq57, r_loadB _ _ hf.get, hf.name, hf.up, seq_eq, hs] | simp -eta only [KY, ↓reduceIte, Nat.reduceEqDiff, R54_0_eq, R54_1_eq, R54_2_eq, R54_3_eq, R54_4_eq, R54_5_eq, R54_6_eq, E54_normal, E54_ret, E54_pan])
      exact hrun
theorem find_ok {h : Heap} {nx m : Nat} {σ : Sto} (hm : Mem h nx m σ) (name : Str) {env : List Fr} {e : AV} (he : RdE σ env e) :
    ∃ e', RdE σ (findF name env) e' ∧ Rn 54 [e, .str name.1 name.2] h nx (.ret e' h nx) := by
  obtain ⟨e', he', hrun⟩ := find_loop hm name env e 0 (tmL (tmL tm0 [(1, .str name.1 name.2), (0, e)]) [(4, .nilptr)]) he rfl rfl
  refine ⟨e', he', ?_⟩
  refine Rn.of (f := 54) (l := [e, .str name.1 name.2]) (g := fun n d => F54 n (CN n d) e name.1 name.2 h nx) (fun n d => F54_eq sp54 n (CN n d) e name.1 name.2 h nx) ?_
  unfold F54
  repeat (first | simp -eta only [SY, ↓reduceIte, Nat.reduceEqDiff, Nat.reduceAdd] | simp -eta only [KY, ↓reduceIte, Nat.reduceEqDiff, R54_0_eq, R54_1_eq, R54_2_eq, R54_3_eq, R54_5_eq])
  exact hrun
end Go.Proofs.YtaajedkbaahgfaaGreatDoor

/-
Residual of function 55
-/
namespace Go.Proofs.YtaajedkbaahgfaaGreatDoor
open Go Go.AE
set_option maxRecDepth 100000
/-! touchstone/eval.take -/
noncomputable def C55 : Code := Tryz.f55.body.getD .skip
noncomputable def E55 (n : Nat) (call : CallF) : KX CRes := kEnd Tryz.prog true locOfF n call (mapL (rsVar Tryz.prog 7) Tryz.f55.results.toList)
noncomputable def R55_0 (n : Nat) (call : CallF) : TM → Defs → Heap → Nat → KX CRes → Option CRes := kCode (β := CRes) Tryz.prog 104 7 19648582183195004914728165128192 C55 n call
noncomputable def R55_1 (n : Nat) (call : CallF) : TM → Defs → Heap → Nat → KX CRes → Option CRes := kCode (β := CRes) Tryz.prog 104 7 19648582183195004914728165128192 (cL C55) n call
noncomputable def R55_2 (n : Nat) (call : CallF) : TM → Defs → Heap → Nat → KX CRes → Option CRes := kCode (β := CRes) Tryz.prog 104 7 19648582183195004914728165128192 (cR C55) n call
noncomputable def R55_3 (n : Nat) (call : CallF) : TM → Defs → Heap → Nat → KX CRes → Option CRes := kCode (β := CRes) Tryz.prog 104 7 19648582183195004914728165128192 (cL (cR C55)) n call
noncomputable def R55_4 (n : Nat) (call : CallF) : TM → Defs → Heap → Nat → KX CRes → Option CRes := kCode (β := CRes) Tryz.prog 104 7 19648582183195004914728165128192 (cR (cR C55)) n call
noncomputable def R55_5 (n : Nat) (call : CallF) : TM → Defs → Heap → Nat → KX CRes → Option CRes := kCode (β := CRes) Tryz.prog 104 7 19648582183195004914728165128192 (cL (cR (cR C55))) n call
noncomputable def R55_6 (n : Nat) (call : CallF) : TM → Defs → Heap → Nat → KX CRes → Option CRes := kCode (β := CRes) Tryz.prog 104 7 19648582183195004914728165128192 (cR (cR (cR C55))) n call
noncomputable def R55_7 (n : Nat) (call : CallF) : TM → Defs → Heap → Nat → KX CRes → Option CRes := kCode (β := CRes) Tryz.prog 104 7 19648582183195004914728165128192 (cL (cR (cR (cR C55)))) n call
noncomputable def R55_8 (n : Nat) (call : CallF) : TM → Defs → Heap → Nat → KX CRes → Option CRes := kCode (β := CRes) Tryz.prog 104 7 19648582183195004914728165128192 (cR (cR (cR (cR C55)))) n call
noncomputable def R55_9 (n : Nat) (call : CallF) : TM → Defs → Heap → Nat → KX CRes → Option CRes := kCode (β := CRes) Tryz.prog 104 7 19648582183195004914728165128192 (cL (cL (cR (cR (cR C55))))) n call
noncomputable def R55_10 (n : Nat) (call : CallF) : TM → Defs → Heap → Nat → KX CRes → Option CRes := kCode (β := CRes) Tryz.prog 104 7 19648582183195004914728165128192 (cR (cL (cR (cR (cR C55))))) n call
noncomputable def R55_11 (n : Nat) (call : CallF) : TM → Defs → Heap → Nat → KX CRes → Option CRes := kCode (β := CRes) Tryz.prog 104 7 19648582183195004914728165128192 (cL (cR (cL (cR (cR (cR C55)))))) n call
noncomputable def R55_12 (n : Nat) (call : CallF) : TM → Defs → Heap → Nat → KX CRes → Option CRes := kCode (β := CRes) Tryz.prog 104 7 19648582183195004914728165128192 (cL (cL (cR (cL (cR (cR (cR C55))))))) n call
noncomputable def F55 (n : Nat) (call : CallF) (pb0 po0 : Nat) (a1 : AV) (a2 : AV) (h : Heap) (nx : Nat) : Option CRes :=
  R55_0 n call (.fn (tmL tm0 [(2, a2), (1, a1), (0, (.ptr pb0 po0))])) [] h nx (E55 n call)
theorem F55_eq {sp : Specs} (hsp : sp 55 = none) (n : Nat) (call : CallF) (pb0 po0 : Nat) (a1 : AV) (a2 : AV) (h : Heap) (nx : Nat) : callS Tryz.prog true sp locOfF n call 55 [(.ptr pb0 po0), a1, a2] h nx = F55 n call pb0 po0 a1 a2 h nx :=
  (call_eq2 Tryz.func55 (c := C55) (N := 104) (dp := 7) (L := 19648582183195004914728165128192) (tm := (.fn (tmL tm0 [(2, a2), (1, a1), (0, (.ptr pb0 po0))]))) (by kernel_rfl) (by kernel_rfl) (by kernel_rfl) (by kernel_rfl) (by kernel_rfl) (by kernel_rfl) hsp n call h nx).trans (by kernel_rfl)
theorem R55_0_eq (n : Nat) (call : CallF) (f : Nat → Option AV) (df : Defs) (h : Heap) (nx : Nat) (K : KX CRes) : R55_0 n call (.fn f) df h nx K =
  R55_1 n call (.fn f) df h nx (kThen (R55_2 n call) K) :=
  (congrArg (fun c => kCode (β := CRes) Tryz.prog 104 7 19648582183195004914728165128192 c n call (.fn f) df h nx K) (show C55 = (.seq (cL C55) (cR C55)) by kernel_rfl)).trans (kCode_seq ..)
theorem R55_1_eq (n : Nat) (call : CallF) (f : Nat → Option AV) (df : Defs) (h : Heap) (nx : Nat) (K : KX CRes) : R55_1 n call (.fn f) df h nx K =
  bd (bd (f 1) fun v1 => (boxR nx v1)) fun r2 =>
  letH (hset h nx r2.2) (Nat.succ nx) fun h3 n4 =>
  K h3 n4 .normal (.fn (tmL f [(7, (.bool false)), (6, .nilptr), (4, r2.1)])) df := by kernel_rfl
theorem R55_2_eq (n : Nat) (call : CallF) (f : Nat → Option AV) (df : Defs) (h : Heap) (nx : Nat) (K : KX CRes) : R55_2 n call (.fn f) df h nx K =
  R55_3 n call (.fn f) df h nx (kThen (R55_4 n call) K) :=
  (congrArg (fun c => kCode (β := CRes) Tryz.prog 104 7 19648582183195004914728165128192 c n call (.fn f) df h nx K) (show (cR C55) = (.seq (cL (cR C55)) (cR (cR C55))) by kernel_rfl)).trans (kCode_seq ..)
theorem R55_3_eq (n : Nat) (call : CallF) (f : Nat → Option AV) (df : Defs) (h : Heap) (nx : Nat) (K : KX CRes) : R55_3 n call (.fn f) df h nx K =
  bd (f 0) fun v5 =>
  bd (rNilV v5) fun v6 =>
  bd (adr 0 v6) fun v7 =>
  bd (ld1 h v7) fun v8 =>
  bd (binV .eql (eqT Tryz.prog 8 3) true (!(Tryz.prog.eqGuardType Tryz.prog.depth 3)) (.int .i64 12) v8) fun v9 =>
  onBool v9 fun b10 => sl b10
  (bd (bd ((f 0)) fun v11 => some v11) fun v12 =>
  bd (bd ((rNilV v12)) fun v13 => some v13) fun v14 =>
  bd (bd ((adr 2 v14)) fun v15 => some v15) fun v16 =>
  bd (bd ((ld1 h v16)) fun v17 => some v17) fun v18 =>
  bd (bd ((bd (f 4) fun v19 => (ldA 7 h v19))) fun v20 => some v20) fun v21 =>
  bd (bd ((f 2)) fun v22 => some v22) fun v23 =>
  bd (bd ((bld [(.str 0 0), (.int .i64 0), (.str 0 0), (.str 0 0), (.int .i64 0), .nilslice, .nilptr, .nilptr, .nilptr, .nilptr] [(0, 1, v18), (1, 7, v21), (9, 1, v23)])) fun v24 => some v24) fun v25 =>
  bd (boxR (nx + 7) v25) fun r26 =>
  letH (hset h (nx + 7) r26.2) (nx + 10) fun h27 _ =>
  K h27 (nx + 10) .ret (.fn (tmL f [(7, (.bool true)), (6, r26.1), (15, v9), (14, v8)])) df)
  (bd (binV .eql (eqT Tryz.prog 8 3) true (!(Tryz.prog.eqGuardType Tryz.prog.depth 3)) (.int .i64 11) v8) fun v28 =>
  onBool v28 fun b29 => sl b29
  (bd (f 2) fun v30 =>
  K h nx .ret (.fn (tmL f [(7, (.bool true)), (6, v30), (25, v28), (15, v9), (14, v8)])) df)
  (K h nx .normal (.fn (tmL f [(25, v28), (15, v9), (14, v8)])) df)) := by kernel_rfl
theorem R55_4_eq (n : Nat) (call : CallF) (f : Nat → Option AV) (df : Defs) (h : Heap) (nx : Nat) (K : KX CRes) : R55_4 n call (.fn f) df h nx K =
  R55_5 n call (.fn f) df h nx (kThen (R55_6 n call) K) :=
  (congrArg (fun c => kCode (β := CRes) Tryz.prog 104 7 19648582183195004914728165128192 c n call (.fn f) df h nx K) (show (cR (cR C55)) = (.seq (cL (cR (cR C55))) (cR (cR (cR C55)))) by kernel_rfl)).trans (kCode_seq ..)
theorem R55_5_eq (n : Nat) (call : CallF) (f : Nat → Option AV) (df : Defs) (h : Heap) (nx : Nat) (K : KX CRes) : R55_5 n call (.fn f) df h nx K =
  bd (bd ((bd (f 4) fun v31 => (adr 0 v31))) fun v32 => some v32) fun v33 =>
  bd (bd ((ld1 h v33)) fun v34 => some v34) fun v35 =>
  bd (bd ((f 0)) fun v36 => some v36) fun v37 =>
  bd (bd ((rNilV v37)) fun v38 => some v38) fun v39 =>
  bd (bd ((adr 0 v39)) fun v40 => some v40) fun v41 =>
  bd (bd ((ld1 h v41)) fun v42 => some v42) fun v43 =>
  bd (bd ((binV .neq (eqT Tryz.prog 8 3) false (!(Tryz.prog.eqGuardType Tryz.prog.depth 3)) v43 v35)) fun v44 => some v44) fun v45 =>
  bd (wantV false v45) fun b46 => bd (sl b46 (bd ((bd (f 4) fun v47 => (adr 1 v47))) fun v48 => some v48) (some (.tuple []))) fun v49 =>
  bd (wantV false v45) fun b50 => bd (sl b50 (bd ((ld1 h v49)) fun v51 => some v51) (some (.tuple []))) fun v52 =>
  bd (wantV false v45) fun b53 => bd (sl b53 (bd ((f 0)) fun v54 => some v54) (some (.tuple []))) fun v55 =>
  bd (wantV false v45) fun b56 => bd (sl b56 (bd ((rNilV v55)) fun v57 => some v57) (some (.tuple []))) fun v58 =>
  bd (wantV false v45) fun b59 => bd (sl b59 (bd ((adr 1 v58)) fun v60 => some v60) (some (.tuple []))) fun v61 =>
  bd (wantV false v45) fun b62 => bd (sl b62 (bd ((ld1 h v61)) fun v63 => some v63) (some (.tuple []))) fun v64 =>
  bd (wantV false v45) fun b65 => bd (sl b65 (bd ((binV .neq (eqT Tryz.prog 8 9) false (!(Tryz.prog.eqGuardType Tryz.prog.depth 9)) v64 v52)) fun v66 => some v66) (some (.tuple []))) fun v67 =>
  bd (bd ((pickV v45 (.bool true) v67)) fun v68 => some v68) fun v69 =>
  bd (wantV false v69) fun b70 => bd (sl b70 (bd ((bd (f 4) fun v71 => (adr 2 v71))) fun v72 => some v72) (some (.tuple []))) fun v73 =>
  bd (wantV false v69) fun b74 => bd (sl b74 (bd ((ld1 h v73)) fun v75 => some v75) (some (.tuple []))) fun v76 =>
  bd (wantV false v69) fun b77 => bd (sl b77 (bd ((f 0)) fun v78 => some v78) (some (.tuple []))) fun v79 =>
  bd (wantV false v69) fun b80 => bd (sl b80 (bd ((rNilV v79)) fun v81 => some v81) (some (.tuple []))) fun v82 =>
  bd (wantV false v69) fun b83 => bd (sl b83 (bd ((adr 2 v82)) fun v84 => some v84) (some (.tuple []))) fun v85 =>
  bd (wantV false v69) fun b86 => bd (sl b86 (bd ((ld1 h v85)) fun v87 => some v87) (some (.tuple []))) fun v88 =>
  bd (wantV false v69) fun b89 => bd (sl b89 (bd ((binV .neq (eqT Tryz.prog 8 9) false (!(Tryz.prog.eqGuardType Tryz.prog.depth 9)) v88 v76)) fun v90 => some v90) (some (.tuple []))) fun v91 =>
  bd (bd ((pickV v69 (.bool true) v91)) fun v92 => some v92) fun v93 =>
  bd (wantV false v93) fun b94 => bd (sl b94 (bd ((bd (f 4) fun v95 => (adr 3 v95))) fun v96 => some v96) (some (.tuple []))) fun v97 =>
  bd (wantV false v93) fun b98 => bd (sl b98 (bd ((ld1 h v97)) fun v99 => some v99) (some (.tuple []))) fun v100 =>
  bd (wantV false v93) fun b101 => bd (sl b101 (bd ((f 0)) fun v102 => some v102) (some (.tuple []))) fun v103 =>
  bd (wantV false v93) fun b104 => bd (sl b104 (bd ((rNilV v103)) fun v105 => some v105) (some (.tuple []))) fun v106 =>
  bd (wantV false v93) fun b107 => bd (sl b107 (bd ((adr 3 v106)) fun v108 => some v108) (some (.tuple []))) fun v109 =>
  bd (wantV false v93) fun b110 => bd (sl b110 (bd ((ld1 h v109)) fun v111 => some v111) (some (.tuple []))) fun v112 =>
  bd (wantV false v93) fun b113 => bd (sl b113 (bd ((binV .neq (eqT Tryz.prog 8 3) false (!(Tryz.prog.eqGuardType Tryz.prog.depth 3)) v112 v100)) fun v114 => some v114) (some (.tuple []))) fun v115 =>
  bd (bd ((pickV v93 (.bool true) v115)) fun v116 => some v116) fun v117 =>
  bd (wantV false v117) fun b118 => bd (sl b118 (bd ((bd (f 4) fun v119 => (adr 4 v119))) fun v120 => some v120) (some (.tuple []))) fun v121 =>
  bd (wantV false v117) fun b122 => bd (sl b122 (bd ((ld1 h v121)) fun v123 => some v123) (some (.tuple []))) fun v124 =>
  bd (wantV false v117) fun b125 => bd (sl b125 (bd ((lenSl v124)) fun v126 => some v126) (some (.tuple []))) fun v127 =>
  bd (wantV false v117) fun b128 => bd (sl b128 (bd ((f 0)) fun v129 => some v129) (some (.tuple []))) fun v130 =>
  bd (wantV false v117) fun b131 => bd (sl b131 (bd ((rNilV v130)) fun v132 => some v132) (some (.tuple []))) fun v133 =>
  bd (wantV false v117) fun b134 => bd (sl b134 (bd ((adr 4 v133)) fun v135 => some v135) (some (.tuple []))) fun v136 =>
  bd (wantV false v117) fun b137 => bd (sl b137 (bd ((ld1 h v136)) fun v138 => some v138) (some (.tuple []))) fun v139 =>
  bd (wantV false v117) fun b140 => bd (sl b140 (bd ((lenSl v139)) fun v141 => some v141) (some (.tuple []))) fun v142 =>
  bd (wantV false v117) fun b143 => bd (sl b143 (bd ((binV .neq (eqT Tryz.prog 8 3) false (!(Tryz.prog.eqGuardType Tryz.prog.depth 3)) v142 v127)) fun v144 => some v144) (some (.tuple []))) fun v145 =>
  bd (bd ((pickV v117 (.bool true) v145)) fun v146 => some v146) fun v147 =>
  onBool v147 fun b148 => sl b148
  (bd (f 2) fun v149 =>
  K h (nx + 45) .ret (.fn (tmL f [(7, (.bool false)), (6, v149), (72, v147)])) df)
  (K h (nx + 45) .normal (.fn (tmL f [(72, v147)])) df) := by kernel_rfl
theorem R55_6_eq (n : Nat) (call : CallF) (f : Nat → Option AV) (df : Defs) (h : Heap) (nx : Nat) (K : KX CRes) : R55_6 n call (.fn f) df h nx K =
  R55_7 n call (.fn f) df h nx (kThen (R55_8 n call) K) :=
  (congrArg (fun c => kCode (β := CRes) Tryz.prog 104 7 19648582183195004914728165128192 c n call (.fn f) df h nx K) (show (cR (cR (cR C55))) = (.seq (cL (cR (cR (cR C55)))) (cR (cR (cR (cR C55))))) by kernel_rfl)).trans (kCode_seq ..)
theorem R55_7_eq (n : Nat) (call : CallF) (f : Nat → Option AV) (df : Defs) (h : Heap) (nx : Nat) (K : KX CRes) : R55_7 n call (.fn f) df h nx K =
  R55_9 n call (.fn f) df h nx (kThen (R55_10 n call) K) :=
  (congrArg (fun c => kCode (β := CRes) Tryz.prog 104 7 19648582183195004914728165128192 c n call (.fn f) df h nx K) (show (cL (cR (cR (cR C55)))) = (.seq (cL (cL (cR (cR (cR C55))))) (cR (cL (cR (cR (cR C55)))))) by kernel_rfl)).trans (kCode_seq ..)
theorem R55_8_eq (n : Nat) (call : CallF) (f : Nat → Option AV) (df : Defs) (h : Heap) (nx : Nat) (K : KX CRes) : R55_8 n call (.fn f) df h nx K =
  bd (f 2) fun v150 =>
  K h nx .ret (.fn (tmL f [(7, (.bool true)), (6, v150)])) df := by kernel_rfl
theorem R55_9_eq (n : Nat) (call : CallF) (f : Nat → Option AV) (df : Defs) (h : Heap) (nx : Nat) (K : KX CRes) : R55_9 n call (.fn f) df h nx K =
  bd (f 0) fun v151 =>
  bd (rNilV v151) fun v152 =>
  bd (adr 4 v152) fun v153 =>
  bd (ld1 h v153) fun v154 =>
  bd (lenSl v154) fun v155 =>
  K h nx .normal (.fn (tmL f [(79, (.int .i64 0)), (78, v155)])) df := by kernel_rfl
theorem R55_10_eq (n : Nat) (call : CallF) (f : Nat → Option AV) (df : Defs) (h : Heap) (nx : Nat) (K : KX CRes) : R55_10 n call (.fn f) df h nx K =
  R55_11 n call (.fn f) df h nx (kLeave 1 K) :=
  (congrArg (fun c => kCode (β := CRes) Tryz.prog 104 7 19648582183195004914728165128192 c n call (.fn f) df h nx K) (show (cR (cL (cR (cR (cR C55))))) = (.block 1 (cL (cR (cL (cR (cR (cR C55))))))) by kernel_rfl)).trans (kCode_block ..)
theorem R55_11_eq (n : Nat) (call : CallF) (f : Nat → Option AV) (df : Defs) (h : Heap) (nx : Nat) (K : KX CRes) : R55_11 n call (.fn f) df h nx K =
  kLoop (R55_12 n call) n (.fn f) df h nx K :=
  (congrArg (fun c => kCode (β := CRes) Tryz.prog 104 7 19648582183195004914728165128192 c n call (.fn f) df h nx K) (show (cL (cR (cL (cR (cR (cR C55)))))) = (.loop (cL (cL (cR (cL (cR (cR (cR C55)))))))) by kernel_rfl)).trans (kCode_loop ..)
theorem R55_12_eq (n : Nat) (call : CallF) (f : Nat → Option AV) (df : Defs) (h : Heap) (nx : Nat) (K : KX CRes) : R55_12 n call (.fn f) df h nx K =
  bd (bd (f 79) fun v156 => bd (f 78) fun v157 => (binV .lss (eqT Tryz.prog 8 3) false (!(Tryz.prog.eqGuardType Tryz.prog.depth 3)) v157 v156)) fun v158 =>
  onBool v158 fun b159 => sl b159
  (bd (f 79) fun v160 =>
  bd (bd ((f 0)) fun v161 => some v161) fun v162 =>
  bd (bd ((rNilV v162)) fun v163 => some v163) fun v164 =>
  bd (bd ((adr 4 v164)) fun v165 => some v165) fun v166 =>
  bd (bd ((ld1 h v166)) fun v167 => some v167) fun v168 =>
  bd (bd ((idx 5 v168 v160)) fun v169 => some v169) fun v170 =>
  bd (bd ((bd (f 4) fun v171 => (adr 4 v171))) fun v172 => some v172) fun v173 =>
  bd (bd ((ld1 h v173)) fun v174 => some v174) fun v175 =>
  bd (bd ((idx 7 v175 v160)) fun v176 => some v176) fun v177 =>
  bd (bd ((ldA 7 h v177)) fun v178 => some v178) fun v179 =>
  bd (bd ((f 2)) fun v180 => some v180) fun v181 =>
  bd (clR call 55 [v170, v179, v181] h (nx + 18)) (ares (fun v182 h183 n184 =>
  bd (bd ((extV v182 0)) fun v185 => some v185) fun v186 =>
  bd (bd ((extV v182 1)) fun v187 => some v187) fun v188 =>
  bd (unNot v188) fun v189 =>
  onBool v189 fun b190 => sl b190
  (bd (f 2) fun v191 =>
  K h183 n184 .ret (.fn (tmL f [(7, (.bool false)), (6, v191), (99, v189), (10, v188), (9, v186), (8, v160), (80, v158)])) df)
  (bd (bd (f 79) fun v192 => (binV .add (eqT Tryz.prog 8 3) true (!(Tryz.prog.eqGuardType Tryz.prog.depth 3)) (.int .i64 1) v192)) fun v193 =>
  K h183 n184 .normal (.fn (tmL f [(79, v193), (2, v186), (99, v189), (10, v188), (9, v186), (8, v160), (80, v158)])) df)) (fun v194 h195 n196 => K h195 n196 (.pan v194) (.tr .nil) df)))
  (K h nx (.exit 1) (.fn (tmL f [(80, v158)])) df) := by kernel_rfl
theorem E55_normal (n : Nat) (call : CallF) (f : Nat → Option AV) (h : Heap) (nx : Nat) : E55 n call h nx .normal (.fn f) [] = retL [(f 6), (f 7)] h nx := by kernel_rfl
theorem E55_ret (n : Nat) (call : CallF) (f : Nat → Option AV) (h : Heap) (nx : Nat) : E55 n call h nx .ret (.fn f) [] = retL [(f 6), (f 7)] h nx := by kernel_rfl
theorem E55_pan (n : Nat) (call : CallF) (v : AV) (tm : TM) (h : Heap) (nx : Nat) : E55 n call h nx (.pan v) tm [] = some (.pan v h nx) := by kernel_rfl
end Go.Proofs.YtaajedkbaahgfaaGreatDoor

/-
What the functions of the law answer: take.
-/
namespace Go.Proofs.YtaajedkbaahgfaaGreatDoor
open Go Go.AE Go.EV
set_option maxRecDepth 100000
set_option maxHeartbeats 1000000

theorem rdv_inv {σ : Sto} {v : Vl} {l : List AV} (h : RdV σ v l) : ∃ ks cv ev, l = [.int .i64 v.kind, .str v.pkg.1 v.pkg.2, .str v.name.1 v.name.2, .int .i64 v.n, ks, cv, ev] ∧ RdVs σ v.kids ks ∧ RdO σ v.code cv ∧ RdE σ v.env ev ∧ (∀ t, v.code = some t → t.kids ≠ []) := by
  cases h with
  | mk k p s n kids c env ks cv ev h hc he hne => exact ⟨ks, cv, ev, rfl, h, hc, he, hne⟩
theorem rdvs_len {σ : Sto} {kids : List Vl} {ks : AV} (h : RdVs σ kids ks) : lenSl ks = some (.int .i64 (kids.length : Int)) := by
  cases h with
  | nil => rfl
  | row b o cap cs hb hl h => rfl
/-! parts of rows -/
theorem rds_at {B : Nat} {σ : Sto} : ∀ {kids : List Tm} {cs : List AV} {o : Nat}, RdSB B σ kids cs o → ∀ {i : Nat} {t : Tm} {ts : List Tm}, kids.drop i = t :: ts → RdTB B σ t ((cs.drop (o + i * 5)).take 5) := by
  intro kids
  induction kids with
  | nil => intro cs o _ i t ts h; rw [List.drop_nil] at h; cases h
  | cons k kids ih =>
    intro cs o h i t ts hi
    cases h with
    | cons _ _ _ _ h r =>
      cases i with
      | zero => cases hi; simpa using h
      | succ i =>
        have := ih r (i := i) hi
        rwa [show o + 5 + i * 5 = o + (i + 1) * 5 by omega] at this
theorem rdvr_at {σ : Sto} : ∀ {kids : List Vl} {cs : List AV} {o : Nat}, RdVr σ kids cs o → ∀ {i : Nat} {t : Vl} {ts : List Vl}, kids.drop i = t :: ts → RdV σ t ((cs.drop (o + i * 7)).take 7) := by
  intro kids
  induction kids with
  | nil => intro cs o _ i t ts h; rw [List.drop_nil] at h; cases h
  | cons k kids ih =>
    intro cs o h i t ts hi
    cases h with
    | cons _ _ _ _ h r =>
      cases i with
      | zero => cases hi; simpa using h
      | succ i =>
        have := ih r (i := i) hi
        rwa [show o + 7 + i * 7 = o + (i + 1) * 7 by omega] at this
theorem drop_lt {α : Type} {l : List α} {i : Nat} {t : α} {ts : List α} (h : l.drop i = t :: ts) : i < l.length := by
  have := congrArg List.length h
  simp at this; omega
theorem rdks_at {B : Nat} {σ : Sto} {kids : List Tm} {ks : AV} (h : RdKsB B σ kids ks) {i : Nat} {t : Tm} {ts : List Tm} (hi : kids.drop i = t :: ts) :
    ∃ pb po cap, ks = .slice pb po kids.length cap 5 ∧ RdPB B σ t pb (po + i * 5) ∧ Nat.blt i kids.length = true ∧ kids.length < B := by
  cases h with
  | nil => rw [List.drop_nil] at hi; cases hi
  | row kids b o cap cs hb hl h => exact ⟨b, o, cap, rfl, ⟨cs, hb, rds_at h hi⟩, by rw [Nat.blt_eq]; exact drop_lt hi, hl⟩
theorem rdvs_at {σ : Sto} {kids : List Vl} {ks : AV} (h : RdVs σ kids ks) {i : Nat} {t : Vl} {ts : List Vl} (hi : kids.drop i = t :: ts) :
    ∃ pb po cap cs, ks = .slice pb po kids.length cap 7 ∧ σ pb = some (.cells cs) ∧ RdV σ t ((cs.drop (po + i * 7)).take 7) ∧ Nat.blt i kids.length = true ∧ kids.length < 4611686018427387904 := by
  cases h with
  | nil => rw [List.drop_nil] at hi; cases hi
  | row kids b o cap cs hb hl h => exact ⟨b, o, cap, cs, rfl, hb, rdvr_at h hi, by rw [Nat.blt_eq]; exact drop_lt hi, hl⟩
theorem drop_tail {α : Type} {l : List α} {i : Nat} {t : α} {ts : List α} (h : l.drop i = t :: ts) : l.drop (i + 1) = ts := by
  rw [← List.drop_drop, h]; rfl
theorem ltI_nat (a b : Nat) : ltI (a : Int) (b : Int) = decide (a < b) := by rw [ltI_dec]; simp
theorem inc_small {i n : Nat} (h : i < n) (hn : n < 9223372036854775808) : wrapF .i64 (addI (i : Int) 1) = ((i + 1 : Nat) : Int) := by
  rw [add_small (by omega) (by omega) (by omega)]; omega

/-- what 'take' answers -/
def TakeOk (p : Tm) : Prop := ∀ (h : Heap) (nx m : Nat) (σ : Sto) (v : Vl) (l : List AV) (env : List Fr) (e : AV) (b o : Nat), Mem h nx m σ → RdP σ p b o → RdV σ v l → RdE σ env e →
  ∃ h' nx' σ' e', Later h nx m σ h' nx' σ' ∧ Rn 55 [.ptr b o, .agg l, e] h nx (.ret (.tuple [e', .bool (takeP p v env).isSome]) h' nx') ∧ (∀ env', takeP p v env = some env' → RdE σ' env' e') ∧ hget h' m = hget h m

theorem beq55 : Nat.beq 5 5 = true := rfl
theorem beq77 : Nat.beq 7 7 = true := rfl
theorem r_ext0 (a : AV) (l : List AV) : extV (.tuple (a :: l)) 0 = some a := rfl
theorem r_ext1 (a b : AV) (l : List AV) : extV (.tuple (a :: b :: l)) 1 = some b := rfl

theorem take_loop (b o vb m : Nat) (l : List AV) (p : Tm) (v : Vl) (hlen : p.kids.length = v.kids.length) : ∀ (ts : List Tm) (ws : List Vl) (env : List Fr) (e : AV) (h : Heap) (nx : Nat) (σ : Sto) (i j : Nat) (f : Nat → Option AV),
    (∀ t ∈ ts, TakeOk t) → p.kids.drop i = ts → v.kids.drop i = ws → Mem h nx m σ → RdP σ p b o → σ vb = some (.cells l) → RdV σ v l → RdE σ env e →
    f 0 = some (.ptr b o) → f 4 = some (.ptr vb 0) → f 2 = some e → f 78 = some (.int .i64 (p.kids.length : Int)) → f 79 = some (.int .i64 (i : Int)) →
    ∃ h' nx' σ' e', Later h nx m σ h' nx' σ' ∧ Ev (fun n d => kLoop (R55_12 n (CN n d)) (n - j) (.fn f) [] h nx (kLeave 1 (kThen (R55_8 n (CN n d)) (E55 n (CN n d))))) (.ret (.tuple [e', .bool (takeL ts ws env).isSome]) h' nx') ∧
      (∀ env', takeL ts ws env = some env' → RdE σ' env' e') ∧ hget h' m = hget h m := by
  intro ts
  induction ts with
  | nil =>
    intro ws env e h nx σ i j f _ hts hws hm hp hvb hv he f0 f4 f2 f78 f79
    have hge : ¬ i < p.kids.length := by have := congrArg List.length hts; simp at this; omega
    have hlt : ltI (i : Int) (p.kids.length : Int) = false := by rw [ltI_nat]; simpa using hge
    refine ⟨h, nx, σ, e, Later.refl hm, ?_, fun env' h => by cases h; exact he, rfl⟩
    refine Ev.round (B := fun n d => R55_12 n (CN n d)) (tm := fun _ _ => .fn f) (K := fun n d => kLeave 1 (kThen (R55_8 n (CN n d)) (E55 n (CN n d)))) ?_
    refine Ev.pure fun n d => ?_
    show _ = some (CRes.ret (.tuple [e, .bool true]) h nx)
    repeat (first | simp -eta only [SY, ↓reduceIte, Nat.reduceEqDiff, Nat.reduceAdd, f0, f2, f78, f79, hlt] | simp -eta only [KY, ↓reduceIte, Nat.reduceEqDiff, R55_12_eq, R55_8_eq, E55_ret])
  | cons t ts ih =>
    intro ws env e h nx σ i j f hok hts hws hm hp hvb hv he f0 f4 f2 f78 f79
    have hi := drop_lt hts
    have hlt : ltI (i : Int) (p.kids.length : Int) = true := by rw [ltI_nat]; simpa using hi
    obtain ⟨w, ws, rfl⟩ : ∃ w ws', ws = w :: ws' := by
      cases ws with
      | nil => have := congrArg List.length hws; simp at this; omega
      | cons w ws => exact ⟨w, ws, rfl⟩
    obtain ⟨cs, ks, ht⟩ := rdp_at hm hp
    obtain ⟨pb, po, cap, rfl, hpt, hblt, hbig⟩ := rdks_at ht.kids hts
    obtain ⟨vks, cv, ev, hl, hvk, hvc, hve, hne⟩ := rdv_inv hv
    obtain ⟨wb, wo, wcap, wcs, rfl, hwb, hwv, hwlt, _⟩ := rdvs_at hvk hws
    have hgv := hm.sat vb _ hvb
    have l4 : l[4]? = some (.slice wb wo v.kids.length wcap 7) := by rw [hl]; rfl
    have hgw := hm.sat wb _ hwb
    have hrun7 : (pkAgg 7).run wcs (wo + i * 7) = some (.agg ((wcs.drop (wo + i * 7)).take 7)) := pkAgg_run rfl (rdv_len hwv)
    obtain ⟨h1, nx1, σ1, e1, hL1, hR1, hE1, hm1⟩ := hok t (List.mem_cons_self) h (nx + 18) m σ w _ env e pb (po + i * 5) (hm.more (by omega)).mem hpt hwv he
    have hL0 := (hm.more (nx' := nx + 18) (by omega)).trans hL1
    cases htk : takeP t w env with
    | none =>
      refine ⟨h1, nx1, σ1, e, hL0, ?_, fun env' h => (by unfold takeL at h; rw [htk] at h; cases h), hm1⟩
      have hT : takeL (t :: ts) (w :: ws) env = none := by unfold takeL; rw [htk]
      rw [hT]
      refine Ev.round (B := fun n d => R55_12 n (CN n d)) (tm := fun _ _ => .fn f) (K := fun n d => kLeave 1 (kThen (R55_8 n (CN n d)) (E55 n (CN n d)))) ?_
      repeat (first | simp -eta only [SY, ↓reduceIte, Nat.reduceEqDiff, Nat.reduceAdd, f0, f2, f4, f78, f79, hlt, r_loadB _ _ ht.get, ht.c4, hblt, beq55, beq77, r_loadB _ _ hgv, l4, hwlt, r_loadB _ _ hgw, hrun7] | simp -eta only [KY, ↓reduceIte, Nat.reduceEqDiff, R55_12_eq])
      refine Ev.call hR1 ?_
      refine Ev.pure fun n d => ?_
      rw [htk]
      show _ = some (CRes.ret (.tuple [e, .bool false]) h1 nx1)
      repeat (first | simp -eta only [SY, ↓reduceIte, Nat.reduceEqDiff, Nat.reduceAdd, r_ext0, r_ext1, Option.isSome_none, Option.isSome_some, f2] | simp -eta only [KY, ↓reduceIte, Nat.reduceEqDiff, E55_ret])
    | some env1 =>
      have hE := hE1 env1 htk
      obtain ⟨h2, nx2, σ2, e2, hL2, hR2, hE2, hm2⟩ := ih ws env1 e1 h1 nx1 σ1 (i + 1) (j + 1) (tmL f [(79, .int .i64 ((i + 1 : Nat) : Int)), (2, e1), (99, .bool false), (10, .bool true), (9, e1), (8, .int .i64 (i : Int)), (80, .bool true)])
        (fun q hq => hok q (List.mem_cons_of_mem _ hq)) (drop_tail hts) (drop_tail hws) hL0.mem (hp.mono hL0.sle) (hL0.sle _ _ hvb) (hv.mono hL0.sle) hE
        f0 f4 rfl f78 rfl
      have hT : takeL (t :: ts) (w :: ws) env = takeL ts ws env1 := by rw [takeL, htk]
      rw [hT]
      refine ⟨h2, nx2, σ2, e2, hL0.trans hL2, ?_, hE2, hm2.trans hm1⟩
      refine Ev.round (B := fun n d => R55_12 n (CN n d)) (tm := fun _ _ => .fn f) (K := fun n d => kLeave 1 (kThen (R55_8 n (CN n d)) (E55 n (CN n d)))) ?_
      repeat (first | simp -eta only [SY, ↓reduceIte, Nat.reduceEqDiff, Nat.reduceAdd, f0, f2, f4, f78, f79, hlt, r_loadB _ _ ht.get, ht.c4, hblt, beq55, beq77, r_loadB _ _ hgv, l4, hwlt, r_loadB _ _ hgw, hrun7] | simp -eta only [KY, ↓reduceIte, Nat.reduceEqDiff, R55_12_eq])
      refine Ev.call hR1 ?_
      rw [htk]
      have hinc := inc_small hi (by omega)
      repeat (first | simp -eta only [SY, ↓reduceIte, Nat.reduceEqDiff, Nat.reduceAdd, r_ext0, r_ext1, Option.isSome_none, Option.isSome_some, f2, f79, hinc] | simp -eta only [KY, ↓reduceIte, Nat.reduceEqDiff])
      exact hR2
/-- do the outsides fit? -/
theorem take_head {h : Heap} {p : Tm} {v : Vl} {b o vb : Nat} {cs l : List AV} {ks vks e : AV} {σ : Sto} (f : Nat → Option AV) (nx : Nat) (K : KX CRes) (n : Nat) (call : CallF) (ht : TmAt h σ p b o cs ks) (hgv : hget h vb = some (.cells l))
    (l0 : l[0]? = some (.int .i64 v.kind)) (l1 : l[1]? = some (.str v.pkg.1 v.pkg.2)) (l2 : l[2]? = some (.str v.name.1 v.name.2)) (l3 : l[3]? = some (.int .i64 v.n)) (l4 : l[4]? = some vks) (hlv : lenSl vks = some (.int .i64 (v.kids.length : Int)))
    (f0 : f 0 = some (.ptr b o)) (f4 : f 4 = some (.ptr vb 0)) (f2 : f 2 = some e) :
    R55_5 n call (.fn f) [] h nx K = sl (heads p v) (K h (nx + 45) .normal (.fn (tmL f [(72, .bool false)])) []) (K h (nx + 45) .ret (.fn (tmL f [(7, .bool false), (6, e), (72, .bool true)])) []) := by
  have hh : heads p v = (eqI v.kind p.kind && seq v.pkg p.pkg && seq v.name p.name && eqI v.n p.n && eqI (v.kids.length : Int) (p.kids.length : Int)) := by
    unfold heads
    rw [eqI_dec, eqI_dec, eqI_dec]
    congr 1
    simp
    constructor <;> intro h <;> omega
  have hlp := rdks_len ht.kids
  rw [hh]
  cases h1 : eqI v.kind p.kind with
  | false =>
    simp only [Bool.false_and]
    repeat (first | simp -eta only [SY, ↓reduceIte, Nat.reduceEqDiff, Nat.reduceAdd, f0, f4, f2, r_loadB _ _ ht.get, ht.c0, r_loadB _ _ hgv, l0, h1] | simp -eta only [KY, ↓reduceIte, Nat.reduceEqDiff, R55_5_eq])
  | true =>
  cases h2 : seq v.pkg p.pkg with
  | false =>
    simp only [Bool.false_and, Bool.true_and]
    repeat (first | simp -eta only [SY, ↓reduceIte, Nat.reduceEqDiff, Nat.reduceAdd, f0, f4, f2, r_loadB _ _ ht.get, ht.c0, ht.c1, r_loadB _ _ hgv, l0, l1, h1, seq_eq, h2] | simp -eta only [KY, ↓reduceIte, Nat.reduceEqDiff, R55_5_eq])
  | true =>
  cases h3 : seq v.name p.name with
  | false =>
    simp only [Bool.false_and, Bool.true_and]
    repeat (first | simp -eta only [SY, ↓reduceIte, Nat.reduceEqDiff, Nat.reduceAdd, f0, f4, f2, r_loadB _ _ ht.get, ht.c0, ht.c1, ht.c2, r_loadB _ _ hgv, l0, l1, l2, h1, seq_eq, h2, h3] | simp -eta only [KY, ↓reduceIte, Nat.reduceEqDiff, R55_5_eq])
  | true =>
  cases h4 : eqI v.n p.n with
  | false =>
    simp only [Bool.false_and, Bool.true_and]
    repeat (first | simp -eta only [SY, ↓reduceIte, Nat.reduceEqDiff, Nat.reduceAdd, f0, f4, f2, r_loadB _ _ ht.get, ht.c0, ht.c1, ht.c2, ht.c3, r_loadB _ _ hgv, l0, l1, l2, l3, h1, seq_eq, h2, h3, h4] | simp -eta only [KY, ↓reduceIte, Nat.reduceEqDiff, R55_5_eq])
  | true =>
  cases h5 : eqI (v.kids.length : Int) (p.kids.length : Int) with
  | false =>
    simp only [Bool.false_and, Bool.true_and]
    repeat (first | simp -eta only [SY, ↓reduceIte, Nat.reduceEqDiff, Nat.reduceAdd, f0, f4, f2, r_loadB _ _ ht.get, ht.c0, ht.c1, ht.c2, ht.c3, ht.c4, r_loadB _ _ hgv, l0, l1, l2, l3, l4, hlv, hlp, h1, seq_eq, h2, h3, h4, h5] | simp -eta only [KY, ↓reduceIte, Nat.reduceEqDiff, R55_5_eq])
  | true =>
    simp only [Bool.true_and]
    repeat (first | simp -eta only [SY, ↓reduceIte, Nat.reduceEqDiff, Nat.reduceAdd, f0, f4, f2, r_loadB _ _ ht.get, ht.c0, ht.c1, ht.c2, ht.c3, ht.c4, r_loadB _ _ hgv, l0, l1, l2, l3, l4, hlv, hlp, h1, seq_eq, h2, h3, h4, h5] | simp -eta only [KY, ↓reduceIte, Nat.reduceEqDiff, R55_5_eq])
theorem take_ok (p : Tm) : TakeOk p := by
  refine Tm.rec (motive_1 := TakeOk) (motive_2 := fun ps => ∀ t ∈ ps, TakeOk t) ?_ (fun t h => nomatch h) (fun t ts ht hts q hq => ?_) p
  · intro k pk s nn kids ih h nx m σ v l env e b o hm hp hv he
    generalize hpe : Tm.mk k pk s nn kids = p at hp ⊢
    have hk : p.kind = k := by rw [← hpe]; rfl
    have hs : p.name = s := by rw [← hpe]; rfl
    have hkids : p.kids = kids := by rw [← hpe]; rfl
    have hmk := hm.make (id := nx) (nx' := nx + 1) (.cells l) (Nat.le_refl _) (Nat.lt_succ_self _)
    obtain ⟨cs, ks, ht⟩ := rdp_at hmk.mem (hp.mono hmk.sle)
    have hbox : boxR nx (.agg l) = some (.ptr nx 0, .cells l) := by
      show gd (Nat.blt 0 (llen l)) _ = _
      rw [llen_eq, rdv_len hv]; rfl
    have hgb : hget (hset h nx (.cells l)) nx = some (.cells l) := by rw [hget_set, if_pos rfl]
    by_cases h1 : k = 12
    · have e1 : eqI p.kind 12 = true := by rw [hk, h1]; exact eqI_refl _
      have hval : (pkAgg 7).run l 0 = some (.agg l) := pkAgg_run (by rw [List.drop_zero, List.take_of_length_le (by rw [rdv_len hv]; omega)]) (rdv_len hv)
      have hmk2 := hmk.mem.make (id := nx + 1 + 7) (nx' := nx + 1 + 10) (.cells (.str p.name.1 p.name.2 :: (l ++ [.nilptr, e]))) (by omega) (by omega)
      have hT : takeP p v env = some (Fr.mk p.name v none :: env) := by rw [hs, ← hpe]; unfold takeP; rw [if_pos h1]
      refine ⟨_, _, _, .ptr (nx + 1 + 7) 0, hmk.trans hmk2, ?_, ?_, by have := hm.mlt; rw [hget_set, if_neg (by omega), hget_set, if_neg (by omega)]⟩
      · refine Rn.of (f := 55) (l := [.ptr b o, .agg l, e]) (g := fun n d => F55 n (CN n d) b o (.agg l) e h nx) (fun n d => F55_eq sp55 n (CN n d) b o (.agg l) e h nx) (Ev.pure fun n d => ?_)
        show F55 n (CN n d) b o (.agg l) e h nx = _
        rw [hT]
        unfold F55
        have hbld : bld [.str 0 0, .int .i64 0, .str 0 0, .str 0 0, .int .i64 0, .nilslice, .nilptr, .nilptr, .nilptr, .nilptr] [(0, 1, .str p.name.1 p.name.2), (1, 7, .agg l), (9, 1, e)] = some (.agg (.str p.name.1 p.name.2 :: (l ++ [.nilptr, e]))) := by
          obtain ⟨ks, cv, ev, hl, _⟩ := rdv_inv hv
          rw [hl]
          cases he <;> rfl
        have hbox2 : boxR (nx + 1 + 7) (.agg (.str p.name.1 p.name.2 :: (l ++ [.nilptr, e]))) = some (.ptr (nx + 1 + 7) 0, .cells (.str p.name.1 p.name.2 :: (l ++ [.nilptr, e]))) := rfl
        repeat (first | simp -eta only [SY, ↓reduceIte, Nat.reduceEqDiff, Nat.reduceAdd, hbox, r_loadB _ _ ht.get, ht.c0, ht.c2, e1, r_loadB _ _ hgb, hval, hbld, hbox2] | simp -eta only [KY, ↓reduceIte, Nat.reduceEqDiff, R55_0_eq, R55_1_eq, R55_2_eq, R55_3_eq, E55_ret])
        rfl
      · intro env' henv
        rw [hT] at henv
        cases henv
        exact .cons p.name v none env (nx + 1 + 7) l .nilptr e (sput_self _ _ _) ((hv.mono hmk.sle).mono hmk2.sle) .none ((he.mono hmk.sle).mono hmk2.sle)
    have e1 : eqI p.kind 12 = false := by rw [hk]; exact eqI_ne h1
    by_cases h2 : k = 11
    · have e2 : eqI p.kind 11 = true := by rw [hk, h2]; exact eqI_refl _
      have hT : takeP p v env = some env := by rw [← hpe]; unfold takeP; rw [if_neg h1, if_pos h2]
      refine ⟨_, _, _, e, hmk, ?_, ?_, by have := hm.mlt; rw [hget_set, if_neg (by omega)]⟩
      · refine Rn.of (f := 55) (l := [.ptr b o, .agg l, e]) (g := fun n d => F55 n (CN n d) b o (.agg l) e h nx) (fun n d => F55_eq sp55 n (CN n d) b o (.agg l) e h nx) (Ev.pure fun n d => ?_)
        show F55 n (CN n d) b o (.agg l) e h nx = _
        rw [hT]
        unfold F55
        repeat (first | simp -eta only [SY, ↓reduceIte, Nat.reduceEqDiff, Nat.reduceAdd, hbox, r_loadB _ _ ht.get, ht.c0, e1, e2] | simp -eta only [KY, ↓reduceIte, Nat.reduceEqDiff, R55_0_eq, R55_1_eq, R55_2_eq, R55_3_eq, E55_ret])
        rfl
      · intro env' henv
        rw [hT] at henv
        cases henv
        exact he.mono hmk.sle
    have e2 : eqI p.kind 11 = false := by rw [hk]; exact eqI_ne h2
    have hT : takeP p v env = if heads p v then takeL p.kids v.kids env else none := by
      rw [hkids, ← hpe]; unfold takeP; rw [if_neg h1, if_neg h2]
    obtain ⟨vks, cv, ev, hl, hvk, hvc, hve, hne⟩ := rdv_inv hv
    have l0 : l[0]? = some (.int .i64 v.kind) := by rw [hl]; rfl
    have l1 : l[1]? = some (.str v.pkg.1 v.pkg.2) := by rw [hl]; rfl
    have l2 : l[2]? = some (.str v.name.1 v.name.2) := by rw [hl]; rfl
    have l3 : l[3]? = some (.int .i64 v.n) := by rw [hl]; rfl
    have l4 : l[4]? = some vks := by rw [hl]; rfl
    have hlv := rdvs_len hvk
    have hlp := rdks_len ht.kids
    have hR5 := fun (f : Nat → Option AV) (f0 : f 0 = some (.ptr b o)) (f4 : f 4 = some (.ptr nx 0)) (f2 : f 2 = some e) (n : Nat) (call : CallF) (K : KX CRes) => take_head f (nx + 1) K n call ht hgb l0 l1 l2 l3 l4 hlv f0 f4 f2
    have hR5 := hR5 (tmL (tmL (tmL tm0 [(2, e), (1, .agg l), (0, .ptr b o)]) [(7, .bool false), (6, .nilptr), (4, .ptr nx 0)]) [(25, .bool false), (15, .bool false), (14, .int .i64 p.kind)]) rfl rfl rfl
    cases hh : heads p v with
    | false =>
      have hT : takeP p v env = none := by rw [hT, hh]; rfl
      refine ⟨_, _, _, e, hmk.trans (hmk.mem.more (nx' := nx + 1 + 45) (by omega)), ?_, fun env' henv => (by rw [hT] at henv; cases henv), by have := hm.mlt; rw [hget_set, if_neg (by omega)]⟩
      refine Rn.of (f := 55) (l := [.ptr b o, .agg l, e]) (g := fun n d => F55 n (CN n d) b o (.agg l) e h nx) (fun n d => F55_eq sp55 n (CN n d) b o (.agg l) e h nx) (Ev.pure fun n d => ?_)
      show F55 n (CN n d) b o (.agg l) e h nx = _
      rw [hT]
      unfold F55
      repeat (first | simp -eta only [SY, ↓reduceIte, Nat.reduceEqDiff, Nat.reduceAdd, hbox, r_loadB _ _ ht.get, ht.c0, e1, e2, hR5, hh] | simp -eta only [KY, ↓reduceIte, Nat.reduceEqDiff, R55_0_eq, R55_1_eq, R55_2_eq, R55_3_eq, R55_4_eq, E55_ret])
      rfl
    | true =>
      have hT : takeP p v env = takeL p.kids v.kids env := by rw [hT, hh]; rfl
      have hlen : p.kids.length = v.kids.length := by
        unfold heads at hh
        simp only [Bool.and_eq_true, decide_eq_true_eq] at hh
        exact hh.2.symm
      have hL1 := hmk.trans (hmk.mem.more (nx' := nx + 1 + 45) (by omega))
      obtain ⟨h2, nx2, σ2, e', hL2, hR2, hE2, hm2⟩ := take_loop b o nx m l p v hlen p.kids v.kids env e (hset h nx (.cells l)) (nx + 1 + 45) (sput σ nx (.cells l)) 0 0
        (tmL (tmL (tmL (tmL (tmL tm0 [(2, e), (1, .agg l), (0, .ptr b o)]) [(7, .bool false), (6, .nilptr), (4, .ptr nx 0)]) [(25, .bool false), (15, .bool false), (14, .int .i64 p.kind)]) [(72, .bool false)]) [(79, .int .i64 0), (78, .int .i64 (p.kids.length : Int))])
        (fun q hq => ih q (by rwa [hkids] at hq)) rfl rfl hL1.mem (hp.mono hL1.sle) (sput_self _ _ _) (hv.mono hL1.sle) (he.mono hL1.sle) rfl rfl rfl rfl rfl
      refine ⟨h2, nx2, σ2, e', hL1.trans hL2, ?_, (by rw [hT]; exact hE2), by rw [hm2]; have := hm.mlt; rw [hget_set, if_neg (by omega)]⟩
      refine Rn.of (f := 55) (l := [.ptr b o, .agg l, e]) (g := fun n d => F55 n (CN n d) b o (.agg l) e h nx) (fun n d => F55_eq sp55 n (CN n d) b o (.agg l) e h nx) ?_
      rw [hT]
      unfold F55
      repeat (first | simp -eta only [SY, ↓reduceIte, Nat.reduceEqDiff, Nat.reduceAdd, hbox, r_loadB _ _ ht.get, ht.c0, ht.c4, e1, e2, hR5, hh, hlp] | simp -eta only [KY, ↓reduceIte, Nat.reduceEqDiff, R55_0_eq, R55_1_eq, R55_2_eq, R55_3_eq, R55_4_eq, R55_6_eq, R55_7_eq, R55_9_eq, R55_10_eq, R55_11_eq, E55_ret])
      exact Ev.loop (B := fun n d => R55_12 n (CN n d)) (tm := fun _ _ => .fn _) hR2
  · cases hq with
    | head => exact ht
    | tail _ hq => exact hts q hq
end Go.Proofs.YtaajedkbaahgfaaGreatDoor

/-
The machine's state; how calls follow each other.
-/
namespace Go.Proofs.YtaajedkbaahgfaaGreatDoor
open Go Go.AE Go.EV
set_option maxRecDepth 100000
set_option maxHeartbeats 1000000

/-- what the machine's map answers -/
def Lets (σ : Sto) (lets : List (Str × Tm)) (mv : AV) : Prop := ∃ r es ck, mv = .map r ∧ σ r = some (.map es ck) ∧
  ∀ name : Str, ∃ tv, RdO σ (findL name lets) tv ∧ wholeK (eqT Tryz.prog 8 9) (.str name.1 name.2) (ob (findKey (eqT Tryz.prog 8 9) (.str name.1 name.2) es 0) (foundV false .nilptr)) = some tv
theorem Lets.mono {σ τ : Sto} (h : Sto.le σ τ) {lets : List (Str × Tm)} {mv : AV} : Lets σ lets mv → Lets τ lets mv := fun ⟨r, es, ck, e, hr, hn⟩ =>
  ⟨r, es, ck, e, h _ _ hr, fun name => let ⟨tv, h1, h2⟩ := hn name; ⟨tv, h1.mono h, h2⟩⟩

/-- what stays the same while a machine runs -/
structure Mc where
  lets : List (Str × Tm)
  mv : AV
  most : Nat
  mb : Nat
/-- the machine with so many steps left -/
structure St (M : Mc) (h : Heap) (nx : Nat) (σ : Sto) (left : Nat) : Prop where
  mem : Mem h nx M.mb σ
  mch : hget h M.mb = some (.cells [M.mv, .int .i64 ((M.most : Int) - (left : Int)), .int .i64 (M.most : Int)])
  mlo : h.lo ≤ M.mb
  lets : Lets σ M.lets M.mv
  le : left ≤ M.most
  hi : M.most ≤ 20000
section
variable {M : Mc} {h h' : Heap} {nx nx' left : Nat} {σ σ' : Sto}
theorem St.to (s : St M h nx σ left) (L : Later h nx M.mb σ h' nx' σ') (e : hget h' M.mb = hget h M.mb) : St M h' nx' σ' left :=
  ⟨L.mem, e.trans s.mch, by rw [L.lo]; exact s.mlo, s.lets.mono L.sle, s.le, s.hi⟩
theorem St.alloc (s : St M h nx σ left) {id : Nat} (x : Blk) (hid : nx ≤ id) (hn : id < nx') : St M (hset h id x) nx' σ left :=
  s.to (s.mem.alloc hid hn) (by have := s.mem.mlt; rw [hget_set, if_neg (by omega)])
theorem St.make (s : St M h nx σ left) {id : Nat} (x : Blk) (hid : nx ≤ id) (hn : id < nx') : St M (hset h id x) nx' (sput σ id x) left :=
  s.to (s.mem.make x hid hn) (by have := s.mem.mlt; rw [hget_set, if_neg (by omega)])
theorem St.more (s : St M h nx σ left) (hn : nx ≤ nx') : St M h nx' σ left := s.to (s.mem.more hn) rfl
theorem St.write (s : St M h nx σ left) {id : Nat} (x : Blk) (hs : σ id = none) (hm : id ≠ M.mb) : St M (hset h id x) nx σ left :=
  ⟨s.mem.write hs, by rw [hget_set, if_neg (fun e => hm e.symm)]; exact s.mch, by rw [hset_lo]; exact s.mlo, s.lets, s.le, s.hi⟩
theorem St.put (s : St M h nx σ left) {id : Nat} (x : Blk) (hs : σ id = none) (hn : id < nx) (hm : id ≠ M.mb) : St M (hset h id x) nx (sput σ id x) left :=
  ⟨(s.mem.write hs).speak (by rw [hget_set, if_pos rfl]) hn hm, by rw [hget_set, if_neg (fun e => hm e.symm)]; exact s.mch, by rw [hset_lo]; exact s.mlo, s.lets.mono (sput_le hs), s.le, s.hi⟩
theorem St.look (s : St M h nx σ left) (name : Str) : ∃ tv, RdO σ (findL name M.lets) tv ∧ lookV (eqT Tryz.prog 8 9) .nilptr false h M.mv (.str name.1 name.2) = some tv := by
  obtain ⟨r, es, ck, e, hr, hn⟩ := s.lets
  obtain ⟨tv, h1, h2⟩ := hn name
  refine ⟨tv, h1, ?_⟩
  unfold lookV
  rw [e]
  show ob (ob (hget h r) _) _ = _
  rw [s.mem.sat r _ hr]
  exact h2
end

/-- the way of an end -/
abbrev ended (e : Int) : AV := .iface 54 (.agg [.int .i64 e])
/-- a run that starts at this state comes to this answer -/
def Fin (M : Mc) (h : Heap) (nx : Nat) (σ : Sto) (g : Nat → Nat → Option CRes) (r : Res) : Prop := match r with
  | .ok v lf => ∃ h' nx' σ' cs, Later h nx M.mb σ h' nx' σ' ∧ St M h' nx' σ' lf ∧ Ev g (.ret (.agg cs) h' nx') ∧ RdV σ' v cs
  | .err e lf => ∃ h' nx' σ', Later h nx M.mb σ h' nx' σ' ∧ St M h' nx' σ' lf ∧ Ev g (.pan (ended e) h' nx')
def FinL (M : Mc) (h : Heap) (nx : Nat) (σ : Sto) (g : Nat → Nat → Option CRes) (r : ResL) : Prop := match r with
  | .ok vs lf => ∃ h' nx' σ' ks, Later h nx M.mb σ h' nx' σ' ∧ St M h' nx' σ' lf ∧ Ev g (.ret ks h' nx') ∧ RdVs σ' vs ks
  | .err e lf => ∃ h' nx' σ', Later h nx M.mb σ h' nx' σ' ∧ St M h' nx' σ' lf ∧ Ev g (.pan (ended e) h' nx')
/-- an answer, and what follows -/
def rthen (r : Res) (k : Vl → Nat → Res) : Res := match r with
  | .err e l => .err e l
  | .ok v l => k v l
section
variable {M : Mc} {h : Heap} {nx : Nat} {σ : Sto}
theorem Fin.map {g g' : Nat → Nat → Option CRes} {r : Res} (hg : ∀ c, Ev g c → Ev g' c) (hf : Fin M h nx σ g r) : Fin M h nx σ g' r := by
  cases r with
  | ok v lf => obtain ⟨h', nx', σ', cs, h1, h2, h3, h4⟩ := hf; exact ⟨h', nx', σ', cs, h1, h2, hg _ h3, h4⟩
  | err e lf => obtain ⟨h', nx', σ', h1, h2, h3⟩ := hf; exact ⟨h', nx', σ', h1, h2, hg _ h3⟩
theorem FinL.map {g g' : Nat → Nat → Option CRes} {r : ResL} (hg : ∀ c, Ev g c → Ev g' c) (hf : FinL M h nx σ g r) : FinL M h nx σ g' r := by
  cases r with
  | ok v lf => obtain ⟨h', nx', σ', cs, h1, h2, h3, h4⟩ := hf; exact ⟨h', nx', σ', cs, h1, h2, hg _ h3, h4⟩
  | err e lf => obtain ⟨h', nx', σ', h1, h2, h3⟩ := hf; exact ⟨h', nx', σ', h1, h2, hg _ h3⟩
theorem Fin.from {h0 : Heap} {nx0 : Nat} {σ0 : Sto} {g : Nat → Nat → Option CRes} {r : Res} (L : Later h0 nx0 M.mb σ0 h nx σ) (hf : Fin M h nx σ g r) : Fin M h0 nx0 σ0 g r := by
  cases r with
  | ok v lf => obtain ⟨h', nx', σ', cs, h1, h2, h3, h4⟩ := hf; exact ⟨h', nx', σ', cs, L.trans h1, h2, h3, h4⟩
  | err e lf => obtain ⟨h', nx', σ', h1, h2, h3⟩ := hf; exact ⟨h', nx', σ', L.trans h1, h2, h3⟩
/-- one call behind another -/
theorem Fin.bind {h0 : Heap} {nx0 : Nat} {σ0 : Sto} {g : FuncId} {l : List AV} {r : Res} {k : Vl → Nat → Res} {kv : Nat → Nat → AV → Heap → Nat → Option CRes}
    (L : Later h0 nx0 M.mb σ0 h nx σ) (hf : Fin M h nx σ (fun n d => CN n d g l h nx) r)
    (hk : ∀ v lf h' nx' σ' cs, r = .ok v lf → Later h nx M.mb σ h' nx' σ' → St M h' nx' σ' lf → RdV σ' v cs → Fin M h0 nx0 σ0 (fun n d => kv n d (.agg cs) h' nx') (k v lf)) :
    Fin M h0 nx0 σ0 (fun n d => bd (clR (CN n d) g l h nx) (ares (kv n d) (fun v h n => some (.pan v h n)))) (rthen r k) := by
  cases r with
  | ok v lf =>
    obtain ⟨h', nx', σ', cs, h1, h2, h3, h4⟩ := hf
    exact (hk v lf h' nx' σ' cs rfl h1 h2 h4).map fun c hc => Ev.call h3 hc
  | err e lf =>
    obtain ⟨h', nx', σ', h1, h2, h3⟩ := hf
    exact ⟨h', nx', σ', L.trans h1, h2, Ev.callPan (c := fun n d => CN n d) (kv := kv) (kp := fun _ _ v h n => some (.pan v h n)) h3 (Ev.some _)⟩
/-- the answer is written into the cells of the result, and read -/
theorem put_res {h : Heap} {nx id : Nat} {cs l0 : List AV} (hl : cs.length = 7) (hl0 : l0.length = 7) (hone : allOne cs = true) (hg : hget h id = some (.cells l0)) (hlo : h.lo ≤ id) :
    stR 7 h nx (.ptr id 0) (.agg cs) = some (.val (.tuple []) (hset h id (.cells cs)) nx) ∧ loadB (pkAgg 7) (hset h id (.cells cs)) id 0 = some (.agg cs) := by
  have hs : lsplice 0 cs l0 = some cs := by
    match cs, hl with
    | [_, _, _, _, _, _, _], _ => match l0, hl0 with
      | [_, _, _, _, _, _, _], _ => rfl
  refine ⟨?_, ?_⟩
  · rw [r_stR, r_cellsAgg, putCells_ok' hl hone (hro_high hlo) hg hs]; rfl
  · rw [r_loadB _ _ (show hget (hset h id (.cells cs)) id = some (.cells cs) by rw [hget_set, if_pos rfl])]
    exact pkAgg_run (by rw [List.drop_zero, List.take_of_length_le (by omega)]) hl
theorem rde_one {σ : Sto} {env : List Fr} {e : AV} (h : RdE σ env e) : e = .nilptr ∨ ∃ b, e = .ptr b 0 := by
  cases h with
  | nil => exact .inl rfl
  | cons s v rc up b => exact .inr ⟨b, rfl⟩
theorem rdv_one {σ : Sto} {v : Vl} {cs : List AV} (hv : RdV σ v cs) : allOne cs = true := by
  obtain ⟨ks, cv, ev, rfl, hk, hc, he, _⟩ := rdv_inv hv
  have e1 : ks = .nilslice ∨ ∃ b o n c z, ks = .slice b o n c z := by
    generalize v.kids = q at hk
    cases hk with
    | nil => exact .inl rfl
    | row kids b o cap cs hb hl h => exact .inr ⟨_, _, _, _, _, rfl⟩
  have e2 : cv = .nilptr ∨ ∃ b o, cv = .ptr b o := by
    generalize v.code = q at hc
    cases hc with
    | none => exact .inl rfl
    | some t b o h => exact .inr ⟨b, o, rfl⟩
  rcases e1 with rfl | ⟨_, _, _, _, _, rfl⟩ <;> rcases e2 with rfl | ⟨_, _, rfl⟩ <;> rcases rde_one he with rfl | ⟨_, rfl⟩ <;> rfl
/-- the last steps of most functions -/
theorem ret_res {h0 : Heap} {nx0 : Nat} {σ0 : Sto} {id lf : Nat} {l0 cs : List AV} {v : Vl} (L : Later h0 nx0 M.mb σ0 h nx σ) (s : St M h nx σ lf) (hv : RdV σ v cs) (hid : nx0 ≤ id) (hs : σ id = none) (hg : hget h id = some (.cells l0)) (hl0 : l0.length = 7) (h0m : M.mb < nx0)
    (hlo : h0.lo ≤ nx0) : Fin M h0 nx0 σ0 (fun _ _ => bd (stR 7 h nx (.ptr id 0) (.agg cs)) (ares (fun _ h' n' => retL [loadB (pkAgg 7) h' id 0] h' n') (fun v h n => some (.pan v h n)))) (.ok v lf) := by
  obtain ⟨e1, e2⟩ := put_res (nx := nx) (rdv_len hv) hl0 (rdv_one hv) hg (by rw [L.lo]; omega)
  refine ⟨hset h id (.cells cs), nx, σ, cs, L.write _ hid hs, s.write _ hs (by omega), Ev.pure fun _ _ => ?_, hv⟩
  rw [e1]
  show retL [loadB (pkAgg 7) (hset h id (.cells cs)) id 0] (hset h id (.cells cs)) nx = _
  rw [e2]; rfl
/-- a call, and then the last steps -/
theorem Fin.tail {h0 : Heap} {nx0 : Nat} {σ0 : Sto} {g : FuncId} {l : List AV} {r : Res} {id : Nat} {l0 : List AV} (L : Later h0 nx0 M.mb σ0 h nx σ) (hid : nx0 ≤ id) (hn : id < nx) (hs : σ id = none) (hg : hget h id = some (.cells l0)) (hl0 : l0.length = 7)
    (hm : Mem h0 nx0 M.mb σ0) (hf : Fin M h nx σ (fun n d => CN n d g l h nx) r) :
    Fin M h0 nx0 σ0 (fun n d => bd (clR (CN n d) g l h nx) (ares (fun v h' n' => bd (stR 7 h' n' (.ptr id 0) v) (ares (fun _ h' n' => retL [loadB (pkAgg 7) h' id 0] h' n') (fun v h n => some (.pan v h n)))) (fun v h n => some (.pan v h n)))) r := by
  have e : r = rthen r (fun v l => .ok v l) := by cases r <;> rfl
  rw [e]
  refine Fin.bind (k := fun v l => .ok v l) (kv := fun _ _ v h' n' => bd (stR 7 h' n' (.ptr id 0) v) (ares (fun _ h' n' => retL [loadB (pkAgg 7) h' id 0] h' n') (fun v h n => some (.pan v h n)))) L hf fun v lf h' nx' σ' cs _ L1 s1 hv => ?_
  have := hm.mlt
  exact ret_res (L.trans L1) s1 hv hid ((L1.sold id hn).trans hs) ((L1.old id hn (by omega)).trans hg) hl0 hm.mlt hm.lo
/-- an evaluation gets stuck -/
theorem stuck_fin {left : Nat} (s : St M h nx σ left) : Fin M h nx σ (fun n d => CN n d 26 [] h nx) (.err 8 left) := by
  obtain ⟨h', nx', hr, hn, ho, hlo⟩ := stuck_ok h nx
  have L : Later h nx M.mb σ h' nx' σ := ⟨⟨fun b x hb => (ho b (s.mem.dom b x hb)).trans (s.mem.sat b x hb), fun b x hb => Nat.lt_of_lt_of_le (s.mem.dom b x hb) hn, s.mem.mn, by rw [hlo]; exact Nat.le_trans s.mem.lo hn, Nat.lt_of_lt_of_le s.mem.mlt hn⟩,
    hn, fun b hb _ => ho b hb, hlo, fun _ _ h => h, fun _ _ => rfl⟩
  exact ⟨h', nx', σ, L, s.to L (ho _ s.mem.mlt), hr⟩
/-- what an evaluation answers, with so many steps left -/
def EvOk (M : Mc) (fuel : Nat) : Prop := ∀ (left : Nat), left ≤ fuel → ∀ (t : Tm) (env : List Fr) (h : Heap) (nx : Nat) (σ : Sto) (b o : Nat) (e : AV), St M h nx σ left → RdP σ t b o → RdE σ env e →
  Fin M h nx σ (fun n d => CN n d 15 [.ptr M.mb 0, .ptr b o, e] h nx) (evalF M.lets fuel left t env)
end
end Go.Proofs.YtaajedkbaahgfaaGreatDoor

/-
Residual of function 28
-/
namespace Go.Proofs.YtaajedkbaahgfaaGreatDoor
open Go Go.AE
set_option maxRecDepth 100000
/-! (touchstone/eval.machine).all -/
noncomputable def C28 : Code := Tryz.f28.body.getD .skip
noncomputable def E28 (n : Nat) (call : CallF) : KX CRes := kEnd Tryz.prog true locOfF n call (mapL (rsVar Tryz.prog 5) Tryz.f28.results.toList)
noncomputable def R28_0 (n : Nat) (call : CallF) : TM → Defs → Heap → Nat → KX CRes → Option CRes := kCode (β := CRes) Tryz.prog 25 5 33546752 C28 n call
noncomputable def R28_1 (n : Nat) (call : CallF) : TM → Defs → Heap → Nat → KX CRes → Option CRes := kCode (β := CRes) Tryz.prog 25 5 33546752 (cL C28) n call
noncomputable def R28_2 (n : Nat) (call : CallF) : TM → Defs → Heap → Nat → KX CRes → Option CRes := kCode (β := CRes) Tryz.prog 25 5 33546752 (cR C28) n call
noncomputable def R28_3 (n : Nat) (call : CallF) : TM → Defs → Heap → Nat → KX CRes → Option CRes := kCode (β := CRes) Tryz.prog 25 5 33546752 (cL (cR C28)) n call
noncomputable def R28_4 (n : Nat) (call : CallF) : TM → Defs → Heap → Nat → KX CRes → Option CRes := kCode (β := CRes) Tryz.prog 25 5 33546752 (cR (cR C28)) n call
noncomputable def R28_5 (n : Nat) (call : CallF) : TM → Defs → Heap → Nat → KX CRes → Option CRes := kCode (β := CRes) Tryz.prog 25 5 33546752 (cL (cR (cR C28))) n call
noncomputable def R28_6 (n : Nat) (call : CallF) : TM → Defs → Heap → Nat → KX CRes → Option CRes := kCode (β := CRes) Tryz.prog 25 5 33546752 (cR (cR (cR C28))) n call
noncomputable def R28_7 (n : Nat) (call : CallF) : TM → Defs → Heap → Nat → KX CRes → Option CRes := kCode (β := CRes) Tryz.prog 25 5 33546752 (cL (cL (cR (cR C28)))) n call
noncomputable def R28_8 (n : Nat) (call : CallF) : TM → Defs → Heap → Nat → KX CRes → Option CRes := kCode (β := CRes) Tryz.prog 25 5 33546752 (cR (cL (cR (cR C28)))) n call
noncomputable def R28_9 (n : Nat) (call : CallF) : TM → Defs → Heap → Nat → KX CRes → Option CRes := kCode (β := CRes) Tryz.prog 25 5 33546752 (cL (cR (cL (cR (cR C28))))) n call
noncomputable def R28_10 (n : Nat) (call : CallF) : TM → Defs → Heap → Nat → KX CRes → Option CRes := kCode (β := CRes) Tryz.prog 25 5 33546752 (cL (cL (cR (cL (cR (cR C28)))))) n call
noncomputable def F28 (n : Nat) (call : CallF) (pb0 po0 : Nat) (a1 : AV) (a2 : AV) (h : Heap) (nx : Nat) : Option CRes :=
  R28_0 n call (.fn (tmL tm0 [(2, a2), (1, a1), (0, (.ptr pb0 po0))])) [] h nx (E28 n call)
theorem F28_eq {sp : Specs} (hsp : sp 28 = none) (n : Nat) (call : CallF) (pb0 po0 : Nat) (a1 : AV) (a2 : AV) (h : Heap) (nx : Nat) : callS Tryz.prog true sp locOfF n call 28 [(.ptr pb0 po0), a1, a2] h nx = F28 n call pb0 po0 a1 a2 h nx :=
  (call_eq2 Tryz.func28 (c := C28) (N := 25) (dp := 5) (L := 33546752) (tm := (.fn (tmL tm0 [(2, a2), (1, a1), (0, (.ptr pb0 po0))]))) (by kernel_rfl) (by kernel_rfl) (by kernel_rfl) (by kernel_rfl) (by kernel_rfl) (by kernel_rfl) hsp n call h nx).trans (by kernel_rfl)
theorem R28_0_eq (n : Nat) (call : CallF) (f : Nat → Option AV) (df : Defs) (h : Heap) (nx : Nat) (K : KX CRes) : R28_0 n call (.fn f) df h nx K =
  R28_1 n call (.fn f) df h nx (kThen (R28_2 n call) K) :=
  (congrArg (fun c => kCode (β := CRes) Tryz.prog 25 5 33546752 c n call (.fn f) df h nx K) (show C28 = (.seq (cL C28) (cR C28)) by kernel_rfl)).trans (kCode_seq ..)
theorem R28_1_eq (n : Nat) (call : CallF) (f : Nat → Option AV) (df : Defs) (h : Heap) (nx : Nat) (K : KX CRes) : R28_1 n call (.fn f) df h nx K =
  K h nx .normal (.fn (tmL f [(6, .nilslice)])) df := by kernel_rfl
theorem R28_2_eq (n : Nat) (call : CallF) (f : Nat → Option AV) (df : Defs) (h : Heap) (nx : Nat) (K : KX CRes) : R28_2 n call (.fn f) df h nx K =
  R28_3 n call (.fn f) df h nx (kThen (R28_4 n call) K) :=
  (congrArg (fun c => kCode (β := CRes) Tryz.prog 25 5 33546752 c n call (.fn f) df h nx K) (show (cR C28) = (.seq (cL (cR C28)) (cR (cR C28))) by kernel_rfl)).trans (kCode_seq ..)
theorem R28_3_eq (n : Nat) (call : CallF) (f : Nat → Option AV) (df : Defs) (h : Heap) (nx : Nat) (K : KX CRes) : R28_3 n call (.fn f) df h nx K =
  K h nx .normal (.fn (tmL f [(7, .nilslice)])) df := by kernel_rfl
theorem R28_4_eq (n : Nat) (call : CallF) (f : Nat → Option AV) (df : Defs) (h : Heap) (nx : Nat) (K : KX CRes) : R28_4 n call (.fn f) df h nx K =
  R28_5 n call (.fn f) df h nx (kThen (R28_6 n call) K) :=
  (congrArg (fun c => kCode (β := CRes) Tryz.prog 25 5 33546752 c n call (.fn f) df h nx K) (show (cR (cR C28)) = (.seq (cL (cR (cR C28))) (cR (cR (cR C28)))) by kernel_rfl)).trans (kCode_seq ..)
theorem R28_5_eq (n : Nat) (call : CallF) (f : Nat → Option AV) (df : Defs) (h : Heap) (nx : Nat) (K : KX CRes) : R28_5 n call (.fn f) df h nx K =
  R28_7 n call (.fn f) df h nx (kThen (R28_8 n call) K) :=
  (congrArg (fun c => kCode (β := CRes) Tryz.prog 25 5 33546752 c n call (.fn f) df h nx K) (show (cL (cR (cR C28))) = (.seq (cL (cL (cR (cR C28)))) (cR (cL (cR (cR C28))))) by kernel_rfl)).trans (kCode_seq ..)
theorem R28_6_eq (n : Nat) (call : CallF) (f : Nat → Option AV) (df : Defs) (h : Heap) (nx : Nat) (K : KX CRes) : R28_6 n call (.fn f) df h nx K =
  bd (f 7) fun v1 =>
  K h nx .ret (.fn (tmL f [(6, v1)])) df := by kernel_rfl
theorem R28_7_eq (n : Nat) (call : CallF) (f : Nat → Option AV) (df : Defs) (h : Heap) (nx : Nat) (K : KX CRes) : R28_7 n call (.fn f) df h nx K =
  bd (f 1) fun v2 =>
  bd (lenSl v2) fun v3 =>
  K h nx .normal (.fn (tmL f [(11, (.int .i64 0)), (10, v3)])) df := by kernel_rfl
theorem R28_8_eq (n : Nat) (call : CallF) (f : Nat → Option AV) (df : Defs) (h : Heap) (nx : Nat) (K : KX CRes) : R28_8 n call (.fn f) df h nx K =
  R28_9 n call (.fn f) df h nx (kLeave 0 K) :=
  (congrArg (fun c => kCode (β := CRes) Tryz.prog 25 5 33546752 c n call (.fn f) df h nx K) (show (cR (cL (cR (cR C28)))) = (.block 0 (cL (cR (cL (cR (cR C28)))))) by kernel_rfl)).trans (kCode_block ..)
theorem R28_9_eq (n : Nat) (call : CallF) (f : Nat → Option AV) (df : Defs) (h : Heap) (nx : Nat) (K : KX CRes) : R28_9 n call (.fn f) df h nx K =
  kLoop (R28_10 n call) n (.fn f) df h nx K :=
  (congrArg (fun c => kCode (β := CRes) Tryz.prog 25 5 33546752 c n call (.fn f) df h nx K) (show (cL (cR (cL (cR (cR C28))))) = (.loop (cL (cL (cR (cL (cR (cR C28))))))) by kernel_rfl)).trans (kCode_loop ..)
theorem R28_10_eq (n : Nat) (call : CallF) (f : Nat → Option AV) (df : Defs) (h : Heap) (nx : Nat) (K : KX CRes) : R28_10 n call (.fn f) df h nx K =
  bd (bd (f 11) fun v4 => bd (f 10) fun v5 => (binV .lss (eqT Tryz.prog 8 3) false (!(Tryz.prog.eqGuardType Tryz.prog.depth 3)) v5 v4)) fun v6 =>
  onBool v6 fun b7 => sl b7
  (bd (f 11) fun v8 =>
  bd (f 7) fun v9 =>
  bd (f 0) fun v10 =>
  bd (f 1) fun v11 =>
  bd (idx 5 v11 v8) fun v12 =>
  bd (f 2) fun v13 =>
  bd (clR call 15 [v10, v12, v13] h nx) (ares (fun v14 h15 n16 =>
  bd (rowR n16 [(.int .i64 0), (.str 0 0), (.str 0 0), (.int .i64 0), .nilslice, .nilptr, .nilptr] 1 7 [(0, 7, v14)]) fun r17 =>
  letH (hset h15 n16 r17.2) (Nat.succ n16) fun h18 n19 =>
  bd (appV 7 h18 n19 n19 v9 r17.1) (ares (fun v20 h21 n22 =>
  bd (bd (f 11) fun v23 => (binV .add (eqT Tryz.prog 8 3) true (!(Tryz.prog.eqGuardType Tryz.prog.depth 3)) (.int .i64 1) v23)) fun v24 =>
  K h21 n22 .normal (.fn (tmL f [(11, v24), (7, v20), (8, v8), (12, v6)])) df) (fun v25 h26 n27 => K h26 n27 (.pan v25) (.fn (tmL f [(8, v8), (12, v6)])) df))) (fun v28 h29 n30 => K h29 n30 (.pan v28) (.fn (tmL f [(8, v8), (12, v6)])) df)))
  (K h nx (.exit 0) (.fn (tmL f [(12, v6)])) df) := by kernel_rfl
theorem E28_normal (n : Nat) (call : CallF) (f : Nat → Option AV) (h : Heap) (nx : Nat) : E28 n call h nx .normal (.fn f) [] = retL [(f 6)] h nx := by kernel_rfl
theorem E28_ret (n : Nat) (call : CallF) (f : Nat → Option AV) (h : Heap) (nx : Nat) : E28 n call h nx .ret (.fn f) [] = retL [(f 6)] h nx := by kernel_rfl
theorem E28_pan (n : Nat) (call : CallF) (v : AV) (tm : TM) (h : Heap) (nx : Nat) : E28 n call h nx (.pan v) tm [] = some (.pan v h nx) := by kernel_rfl
end Go.Proofs.YtaajedkbaahgfaaGreatDoor

/-
Residual of function 27
-/
namespace Go.Proofs.YtaajedkbaahgfaaGreatDoor
open Go Go.AE
set_option maxRecDepth 100000
/-! (touchstone/eval.machine).variable -/
noncomputable def C27 : Code := Tryz.f27.body.getD .skip
noncomputable def E27 (n : Nat) (call : CallF) : KX CRes := kEnd Tryz.prog true locOfF n call (mapL (rsVar Tryz.prog 6) Tryz.f27.results.toList)
noncomputable def F27 (n : Nat) (call : CallF) (pb0 po0 : Nat) (pb1 po1 : Nat) (a2 : AV) (h : Heap) (nx : Nat) : Option CRes :=
  letH (hset h nx (.cells [(.int .i64 0), (.str 0 0), (.str 0 0), (.int .i64 0), .nilslice, .nilptr, .nilptr])) (Nat.succ nx) fun h1 n2 =>
  bd (loadB pkOne h1 pb1 (po1 + 1)) fun v3 =>
  bd (binV .neq (eqT Tryz.prog 8 9) true (!(Tryz.prog.eqGuardType Tryz.prog.depth 9)) (.str 0 0) v3) fun v4 =>
  onBool v4 fun b5 => sl b5
  (bd (clR call 26 [] h1 n2) (ares (fun v6 h7 n8 =>
  bd (stR 7 h7 n8 (.ptr nx 0) v6) (ares (fun v9 h10 n11 =>
  retL [(loadB (pkAgg 7) h10 nx 0)] h10 n11) (fun v12 h13 n14 => some (.pan v12 h13 n14)))) (fun v15 h16 n17 => some (.pan v15 h16 n17))))
  (bd (loadB pkOne h1 pb1 (po1 + 2)) fun v18 =>
  bd (clR call 54 [a2, v18] h1 n2) (ares (fun v19 h20 n21 =>
  bd (binV .neq (eqT Tryz.prog 8 57) true (!(Tryz.prog.eqGuardType Tryz.prog.depth 57)) .nilptr v19) fun v22 =>
  onBool v22 fun b23 => sl b23
  (bd (rNilV v19) fun v24 =>
  bd (adr 8 v24) fun v25 =>
  bd (ld1 h20 v25) fun v26 =>
  bd (binV .neq (eqT Tryz.prog 8 52) true (!(Tryz.prog.eqGuardType Tryz.prog.depth 52)) .nilptr v26) fun v27 =>
  onBool v27 fun b28 => sl b28
  (bd (rNilV v19) fun v29 =>
  bd (adr 8 v29) fun v30 =>
  bd (ld1 h20 v30) fun v31 =>
  bd (clR call 15 [(.ptr pb0 po0), v31, v19] h20 n21) (ares (fun v32 h33 n34 =>
  bd (stR 7 h33 n34 (.ptr nx 0) v32) (ares (fun v35 h36 n37 =>
  retL [(loadB (pkAgg 7) h36 nx 0)] h36 n37) (fun v38 h39 n40 => some (.pan v38 h39 n40)))) (fun v41 h42 n43 => some (.pan v41 h42 n43))))
  (bd (rNilV v19) fun v44 =>
  bd (adr 1 v44) fun v45 =>
  bd (ldA 7 h20 v45) fun v46 =>
  bd (stR 7 h20 n21 (.ptr nx 0) v46) (ares (fun v47 h48 n49 =>
  retL [(loadB (pkAgg 7) h48 nx 0)] h48 n49) (fun v50 h51 n52 => some (.pan v50 h51 n52)))))
  (bd (bd ((loadB pkOne h20 pb0 po0)) fun v53 => some v53) fun v54 =>
  bd (bd ((loadB pkOne h20 pb1 (po1 + 2))) fun v55 => some v55) fun v56 =>
  bd (bd ((lookV (eqT Tryz.prog 8 9) .nilptr false h20 v54 v56)) fun v57 => some v57) fun v58 =>
  bd (binV .neq (eqT Tryz.prog 8 52) true (!(Tryz.prog.eqGuardType Tryz.prog.depth 52)) .nilptr v58) fun v59 =>
  onBool v59 fun b60 => sl b60
  (bd (clR call 15 [(.ptr pb0 po0), v58, .nilptr] h20 (n21 + 10)) (ares (fun v61 h62 n63 =>
  bd (stR 7 h62 n63 (.ptr nx 0) v61) (ares (fun v64 h65 n66 =>
  retL [(loadB (pkAgg 7) h65 nx 0)] h65 n66) (fun v67 h68 n69 => some (.pan v67 h68 n69)))) (fun v70 h71 n72 => some (.pan v70 h71 n72))))
  (bd (clR call 26 [] h20 (n21 + 10)) (ares (fun v73 h74 n75 =>
  bd (stR 7 h74 n75 (.ptr nx 0) v73) (ares (fun v76 h77 n78 =>
  retL [(loadB (pkAgg 7) h77 nx 0)] h77 n78) (fun v79 h80 n81 => some (.pan v79 h80 n81)))) (fun v82 h83 n84 => some (.pan v82 h83 n84)))))) (fun v85 h86 n87 => some (.pan v85 h86 n87))))
theorem F27_eq {sp : Specs} (hsp : sp 27 = none) (n : Nat) (call : CallF) (pb0 po0 : Nat) (pb1 po1 : Nat) (a2 : AV) (h : Heap) (nx : Nat) : callS Tryz.prog true sp locOfF n call 27 [(.ptr pb0 po0), (.ptr pb1 po1), a2] h nx = F27 n call pb0 po0 pb1 po1 a2 h nx :=
  (call_eq2 Tryz.func27 (c := C27) (N := 54) (dp := 6) (L := 17451448417639936) (tm := (.fn (tmL tm0 [(2, a2), (1, (.ptr pb1 po1)), (0, (.ptr pb0 po0))]))) (by kernel_rfl) (by kernel_rfl) (by kernel_rfl) (by kernel_rfl) (by kernel_rfl) (by kernel_rfl) hsp n call h nx).trans (by kernel_rfl)
theorem E27_normal (n : Nat) (call : CallF) (f : Nat → Option AV) (h : Heap) (nx : Nat) : E27 n call h nx .normal (.fn f) [] = retL [(bd (f 6) fun v88 => (ldA 7 h v88))] h nx := by kernel_rfl
theorem E27_ret (n : Nat) (call : CallF) (f : Nat → Option AV) (h : Heap) (nx : Nat) : E27 n call h nx .ret (.fn f) [] = retL [(bd (f 6) fun v88 => (ldA 7 h v88))] h nx := by kernel_rfl
theorem E27_pan (n : Nat) (call : CallF) (v : AV) (tm : TM) (h : Heap) (nx : Nat) : E27 n call h nx (.pan v) tm [] = some (.pan v h nx) := by kernel_rfl
end Go.Proofs.YtaajedkbaahgfaaGreatDoor

/-
What the functions of the law answer: all, variable.
-/
namespace Go.Proofs.YtaajedkbaahgfaaGreatDoor
open Go Go.AE Go.EV
set_option maxRecDepth 100000
set_option maxHeartbeats 1000000
theorem sp27 : spL 27 = none := rfl
theorem sp28 : spL 28 = none := rfl
section
variable {M : Mc} {fuel : Nat} (hev : EvOk M fuel)
include hev
theorem variable_ok {left : Nat} (hle : left ≤ fuel) {t : Tm} {env : List Fr} {h : Heap} {nx : Nat} {σ : Sto} {b o : Nat} {e : AV} (s : St M h nx σ left) (hp : RdP σ t b o) (he : RdE σ env e) :
    Fin M h nx σ (fun n d => CN n d 27 [.ptr M.mb 0, .ptr b o, e] h nx) (varF M.lets (evalF M.lets fuel) left t env) := by
  have hz := s.mem.alloc (id := nx) (nx' := nx + 1) (x := .cells [.int .i64 0, .str 0 0, .str 0 0, .int .i64 0, .nilslice, .nilptr, .nilptr]) (Nat.le_refl _) (Nat.lt_succ_self _)
  have s1 := s.alloc (id := nx) (nx' := nx + 1) (.cells [.int .i64 0, .str 0 0, .str 0 0, .int .i64 0, .nilslice, .nilptr, .nilptr]) (Nat.le_refl _) (Nat.lt_succ_self _)
  obtain ⟨cs, ks, ht⟩ := rdp_at s1.mem hp
  have hs : σ nx = none := by
    cases hq : σ nx with
    | none => rfl
    | some y => have := s.mem.dom _ _ hq; omega
  have hgn : hget (hset h nx (.cells [.int .i64 0, .str 0 0, .str 0 0, .int .i64 0, .nilslice, .nilptr, .nilptr])) nx = some (.cells [.int .i64 0, .str 0 0, .str 0 0, .int .i64 0, .nilslice, .nilptr, .nilptr]) := by rw [hget_set, if_pos rfl]
  refine Fin.map (g := fun n d => F27 n (CN n d) M.mb 0 b o e h nx) (fun c hc => Rn.of (f := 27) (l := [.ptr M.mb 0, .ptr b o, e]) (g := fun n d => F27 n (CN n d) M.mb 0 b o e h nx) (fun n d => F27_eq sp27 n (CN n d) M.mb 0 b o e h nx) hc) ?_
  unfold F27 varF
  cases hpk : seq t.pkg (0, 0) with
  | false =>
    repeat (first | simp -eta only [SY, ↓reduceIte, Nat.reduceEqDiff, Nat.reduceAdd, r_loadB _ _ ht.get, ht.c1, seq_eq, hpk] | simp -eta only [KY, ↓reduceIte, Nat.reduceEqDiff])
    rw [if_neg (by simp)]
    exact Fin.tail hz (Nat.le_refl _) (Nat.lt_succ_self _) hs hgn rfl s.mem (stuck_fin s1)
  | true =>
    rw [if_pos rfl]
    obtain ⟨e', he', hfind⟩ := find_ok s1.mem t.name he
    repeat (first | simp -eta only [SY, ↓reduceIte, Nat.reduceEqDiff, Nat.reduceAdd, r_loadB _ _ ht.get, ht.c1, ht.c2, seq_eq, hpk] | simp -eta only [KY, ↓reduceIte, Nat.reduceEqDiff])
    refine Fin.map (fun c hc => Ev.call hfind hc) ?_
    cases hf : findF t.name env with
    | nil =>
      rw [hf] at he'
      cases he'
      obtain ⟨tv, htv, hlook⟩ := s1.look t.name
      have hmv : loadB pkOne (hset h nx (.cells [.int .i64 0, .str 0 0, .str 0 0, .int .i64 0, .nilslice, .nilptr, .nilptr])) M.mb 0 = some M.mv := by rw [r_loadB _ _ s1.mch]; rfl
      cases hl : findL t.name M.lets with
      | none =>
        rw [hl] at htv
        cases htv
        repeat (first | simp -eta only [SY, ↓reduceIte, Nat.reduceEqDiff, Nat.reduceAdd, eq57, eq52, hmv, r_loadB _ _ ht.get, ht.c2, hlook] | simp -eta only [KY, ↓reduceIte, Nat.reduceEqDiff])
        exact Fin.tail (hz.trans (s1.mem.more (by omega))) (Nat.le_refl _) (by omega) hs hgn rfl s.mem (stuck_fin (s1.more (by omega)))
      | some body =>
        rw [hl] at htv
        cases htv with
        | some _ tb to_ htp =>
        repeat (first | simp -eta only [SY, ↓reduceIte, Nat.reduceEqDiff, Nat.reduceAdd, eq57, eq52, hmv, r_loadB _ _ ht.get, ht.c2, hlook] | simp -eta only [KY, ↓reduceIte, Nat.reduceEqDiff])
        exact Fin.tail (hz.trans (s1.mem.more (by omega))) (Nat.le_refl _) (by omega) hs hgn rfl s.mem (hev left hle body [] _ _ _ tb to_ .nilptr (s1.more (by omega)) htp .nil)
    | cons fr up =>
      obtain ⟨fs, fv, frc⟩ := fr
      rw [hf] at he'
      obtain ⟨fb, fcs, fl, rv, uv, rfl, hfa, hfv, hfr, hfu⟩ := rde_at s1.mem he'
      cases frc with
      | none =>
        cases hfr
        have hl7 : (pkAgg 7).run fcs (0 + 1) = some (.agg fl) := pkAgg_run hfa.is hfa.len
        repeat (first | simp -eta only [SY, ↓reduceIte, Nat.reduceEqDiff, Nat.reduceAdd, eq57, eq52, r_loadB _ _ hfa.get, hfa.rcv, hl7] | simp -eta only [KY, ↓reduceIte, Nat.reduceEqDiff])
        exact ret_res (hz.trans (s1.mem.more (by omega))) (s1.more (by omega)) hfv (Nat.le_refl _) hs hgn rfl s.mem.mlt s.mem.lo
      | some body =>
        cases hfr with
        | some _ tb to_ htp =>
        repeat (first | simp -eta only [SY, ↓reduceIte, Nat.reduceEqDiff, Nat.reduceAdd, eq57, eq52, r_loadB _ _ hfa.get, hfa.rcv] | simp -eta only [KY, ↓reduceIte, Nat.reduceEqDiff])
        exact Fin.tail hz (Nat.le_refl _) (Nat.lt_succ_self _) hs hgn rfl s.mem (hev left hle body _ _ _ _ tb to_ _ s1 htp he')
end
end Go.Proofs.YtaajedkbaahgfaaGreatDoor
