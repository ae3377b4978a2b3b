/-
Texts of the proof, joined: R17, R10, Ev15, Ev16, R18, Ev17, Ev18, Op2.
-/
import Derived.Test.YtaajedkbaahgfaaGreatDoorA9
import Derived.Test.YtaajedkbaahgfaaGreatDoorProg
set_option linter.unusedSimpArgs false
set_option linter.unusedVariables false
set_option linter.unusedSectionVars false
/-
Residual of function 17
-/
namespace Go.Proofs.YtaajedkbaahgfaaGreatDoor
open Go Go.AE
set_option maxRecDepth 100000
/-! touchstone/touchstonelaw07.weight -/
noncomputable def C17 : Code := Tryz.f17.body.getD .skip
noncomputable def E17 (n : Nat) (call : CallF) : KX CRes := kEnd Tryz.prog true locOfF n call (mapL (rsVar Tryz.prog 6) Tryz.f17.results.toList)
noncomputable def R17_0 (n : Nat) (call : CallF) : TM → Defs → Heap → Nat → KX CRes → Option CRes := kCode (β := CRes) Tryz.prog 47 6 140727019356032 C17 n call
noncomputable def R17_1 (n : Nat) (call : CallF) : TM → Defs → Heap → Nat → KX CRes → Option CRes := kCode (β := CRes) Tryz.prog 47 6 140727019356032 (cL C17) n call
noncomputable def R17_2 (n : Nat) (call : CallF) : TM → Defs → Heap → Nat → KX CRes → Option CRes := kCode (β := CRes) Tryz.prog 47 6 140727019356032 (cR C17) n call
noncomputable def R17_3 (n : Nat) (call : CallF) : TM → Defs → Heap → Nat → KX CRes → Option CRes := kCode (β := CRes) Tryz.prog 47 6 140727019356032 (cL (cR C17)) n call
noncomputable def R17_4 (n : Nat) (call : CallF) : TM → Defs → Heap → Nat → KX CRes → Option CRes := kCode (β := CRes) Tryz.prog 47 6 140727019356032 (cR (cR C17)) n call
noncomputable def R17_5 (n : Nat) (call : CallF) : TM → Defs → Heap → Nat → KX CRes → Option CRes := kCode (β := CRes) Tryz.prog 47 6 140727019356032 (cL (cR (cR C17))) n call
noncomputable def R17_6 (n : Nat) (call : CallF) : TM → Defs → Heap → Nat → KX CRes → Option CRes := kCode (β := CRes) Tryz.prog 47 6 140727019356032 (cR (cR (cR C17))) n call
noncomputable def R17_7 (n : Nat) (call : CallF) : TM → Defs → Heap → Nat → KX CRes → Option CRes := kCode (β := CRes) Tryz.prog 47 6 140727019356032 (cL (cR (cR (cR C17)))) n call
noncomputable def R17_8 (n : Nat) (call : CallF) : TM → Defs → Heap → Nat → KX CRes → Option CRes := kCode (β := CRes) Tryz.prog 47 6 140727019356032 (cR (cR (cR (cR C17)))) n call
noncomputable def R17_9 (n : Nat) (call : CallF) : TM → Defs → Heap → Nat → KX CRes → Option CRes := kCode (β := CRes) Tryz.prog 47 6 140727019356032 (cL (cL (cR (cR (cR C17))))) n call
noncomputable def R17_10 (n : Nat) (call : CallF) : TM → Defs → Heap → Nat → KX CRes → Option CRes := kCode (β := CRes) Tryz.prog 47 6 140727019356032 (cR (cL (cR (cR (cR C17))))) n call
noncomputable def R17_11 (n : Nat) (call : CallF) : TM → Defs → Heap → Nat → KX CRes → Option CRes := kCode (β := CRes) Tryz.prog 47 6 140727019356032 (cL (cR (cL (cR (cR (cR C17)))))) n call
noncomputable def R17_12 (n : Nat) (call : CallF) : TM → Defs → Heap → Nat → KX CRes → Option CRes := kCode (β := CRes) Tryz.prog 47 6 140727019356032 (cL (cL (cR (cL (cR (cR (cR C17))))))) n call
noncomputable def R17_13 (n : Nat) (call : CallF) : TM → Defs → Heap → Nat → KX CRes → Option CRes := kCode (β := CRes) Tryz.prog 47 6 140727019356032 (cL (cL (cL (cR (cL (cR (cR (cR C17)))))))) n call
noncomputable def R17_14 (n : Nat) (call : CallF) : TM → Defs → Heap → Nat → KX CRes → Option CRes := kCode (β := CRes) Tryz.prog 47 6 140727019356032 (cR (cL (cL (cR (cL (cR (cR (cR C17)))))))) n call
noncomputable def R17_15 (n : Nat) (call : CallF) : TM → Defs → Heap → Nat → KX CRes → Option CRes := kCode (β := CRes) Tryz.prog 47 6 140727019356032 (cL (cR (cL (cL (cR (cL (cR (cR (cR C17))))))))) n call
noncomputable def R17_16 (n : Nat) (call : CallF) : TM → Defs → Heap → Nat → KX CRes → Option CRes := kCode (β := CRes) Tryz.prog 47 6 140727019356032 (cR (cR (cL (cL (cR (cL (cR (cR (cR C17))))))))) n call
noncomputable def R17_17 (n : Nat) (call : CallF) : TM → Defs → Heap → Nat → KX CRes → Option CRes := kCode (β := CRes) Tryz.prog 47 6 140727019356032 (cL (cR (cR (cL (cL (cR (cL (cR (cR (cR C17)))))))))) n call
noncomputable def R17_18 (n : Nat) (call : CallF) : TM → Defs → Heap → Nat → KX CRes → Option CRes := kCode (β := CRes) Tryz.prog 47 6 140727019356032 (cR (cR (cR (cL (cL (cR (cL (cR (cR (cR C17)))))))))) n call
noncomputable def F17 (n : Nat) (call : CallF) (a0 : AV) (z1 : Int) (h : Heap) (nx : Nat) : Option CRes :=
  R17_0 n call (.fn (tmL tm0 [(1, (.int .i64 z1)), (0, a0)])) [] h nx (E17 n call)
theorem F17_eq {sp : Specs} (hsp : sp 17 = none) (n : Nat) (call : CallF) (a0 : AV) (z1 : Int) (h : Heap) (nx : Nat) : callS Tryz.prog true sp locOfF n call 17 [a0, (.int .i64 z1)] h nx = F17 n call a0 z1 h nx :=
  (call_eq2 Tryz.func17 (c := C17) (N := 47) (dp := 6) (L := 140727019356032) (tm := (.fn (tmL tm0 [(1, (.int .i64 z1)), (0, a0)]))) (by kernel_rfl) (by kernel_rfl) (by kernel_rfl) (by kernel_rfl) (by kernel_rfl) (by kernel_rfl) hsp n call h nx).trans (by kernel_rfl)
theorem R17_0_eq (n : Nat) (call : CallF) (f : Nat → Option AV) (df : Defs) (h : Heap) (nx : Nat) (K : KX CRes) : R17_0 n call (.fn f) df h nx K =
  R17_1 n call (.fn f) df h nx (kThen (R17_2 n call) K) :=
  (congrArg (fun c => kCode (β := CRes) Tryz.prog 47 6 140727019356032 c n call (.fn f) df h nx K) (show C17 = (.seq (cL C17) (cR C17)) by kernel_rfl)).trans (kCode_seq ..)
theorem R17_1_eq (n : Nat) (call : CallF) (f : Nat → Option AV) (df : Defs) (h : Heap) (nx : Nat) (K : KX CRes) : R17_1 n call (.fn f) df h nx K =
  bd (bd (f 0) fun v1 => (boxR nx v1)) fun r2 =>
  letH (hset h nx r2.2) (Nat.succ nx) fun h3 n4 =>
  K h3 n4 .normal (.fn (tmL f [(4, (.int .i64 0)), (2, r2.1)])) df := by kernel_rfl
theorem R17_2_eq (n : Nat) (call : CallF) (f : Nat → Option AV) (df : Defs) (h : Heap) (nx : Nat) (K : KX CRes) : R17_2 n call (.fn f) df h nx K =
  R17_3 n call (.fn f) df h nx (kThen (R17_4 n call) K) :=
  (congrArg (fun c => kCode (β := CRes) Tryz.prog 47 6 140727019356032 c n call (.fn f) df h nx K) (show (cR C17) = (.seq (cL (cR C17)) (cR (cR C17))) by kernel_rfl)).trans (kCode_seq ..)
theorem R17_3_eq (n : Nat) (call : CallF) (f : Nat → Option AV) (df : Defs) (h : Heap) (nx : Nat) (K : KX CRes) : R17_3 n call (.fn f) df h nx K =
  bd (f 1) fun v5 =>
  bd (binV .gtr (eqT Tryz.prog 8 3) true (!(Tryz.prog.eqGuardType Tryz.prog.depth 3)) (.int .i64 90) v5) fun v6 =>
  bd (wantV false v6) fun b7 => bd (sl b7 ((bd (f 2) fun v8 => (adr 4 v8))) (some (.tuple []))) fun v9 =>
  bd (wantV false v6) fun b10 => bd (sl b10 ((ld1 h v9)) (some (.tuple []))) fun v11 =>
  bd (wantV false v6) fun b12 => bd (sl b12 ((lenSl v11)) (some (.tuple []))) fun v13 =>
  bd (wantV false v6) fun b14 => bd (sl b14 ((binV .gtr (eqT Tryz.prog 8 3) true (!(Tryz.prog.eqGuardType Tryz.prog.depth 3)) (.int .i64 300) v13)) (some (.tuple []))) fun v15 =>
  bd (pickV v6 (.bool true) v15) fun v16 =>
  onBool v16 fun b17 => sl b17
  (K h nx .ret (.fn (tmL f [(4, (.int .i64 100000)), (14, v16)])) df)
  (K h nx .normal (.fn (tmL f [(14, v16)])) df) := by kernel_rfl
theorem R17_4_eq (n : Nat) (call : CallF) (f : Nat → Option AV) (df : Defs) (h : Heap) (nx : Nat) (K : KX CRes) : R17_4 n call (.fn f) df h nx K =
  R17_5 n call (.fn f) df h nx (kThen (R17_6 n call) K) :=
  (congrArg (fun c => kCode (β := CRes) Tryz.prog 47 6 140727019356032 c n call (.fn f) df h nx K) (show (cR (cR C17)) = (.seq (cL (cR (cR C17))) (cR (cR (cR C17)))) by kernel_rfl)).trans (kCode_seq ..)
theorem R17_5_eq (n : Nat) (call : CallF) (f : Nat → Option AV) (df : Defs) (h : Heap) (nx : Nat) (K : KX CRes) : R17_5 n call (.fn f) df h nx K =
  bd (bd (f 2) fun v18 => (adr 1 v18)) fun v19 =>
  bd (ld1 h v19) fun v20 =>
  bd (onStr v20 fun m _ => some (.int .i64 (Int.ofNat m))) fun v21 =>
  bd (minV v21 (.int .i64 100000)) fun v22 =>
  bd (bd (f 2) fun v23 => (adr 2 v23)) fun v24 =>
  bd (ld1 h v24) fun v25 =>
  bd (onStr v25 fun m _ => some (.int .i64 (Int.ofNat m))) fun v26 =>
  bd (minV v26 (.int .i64 100000)) fun v27 =>
  bd (binV .add (eqT Tryz.prog 8 3) false (!(Tryz.prog.eqGuardType Tryz.prog.depth 3)) v27 v22) fun v28 =>
  bd (binV .quo (eqT Tryz.prog 8 3) true (!(Tryz.prog.eqGuardType Tryz.prog.depth 3)) (.int .i64 20) v28) fun v29 =>
  bd (binV .add (eqT Tryz.prog 8 3) true (!(Tryz.prog.eqGuardType Tryz.prog.depth 3)) v29 (.int .i64 1)) fun v30 =>
  K h nx .normal (.fn (tmL f [(5, v30)])) df := by kernel_rfl
theorem R17_6_eq (n : Nat) (call : CallF) (f : Nat → Option AV) (df : Defs) (h : Heap) (nx : Nat) (K : KX CRes) : R17_6 n call (.fn f) df h nx K =
  R17_7 n call (.fn f) df h nx (kThen (R17_8 n call) K) :=
  (congrArg (fun c => kCode (β := CRes) Tryz.prog 47 6 140727019356032 c n call (.fn f) df h nx K) (show (cR (cR (cR C17))) = (.seq (cL (cR (cR (cR C17)))) (cR (cR (cR (cR C17))))) by kernel_rfl)).trans (kCode_seq ..)
theorem R17_7_eq (n : Nat) (call : CallF) (f : Nat → Option AV) (df : Defs) (h : Heap) (nx : Nat) (K : KX CRes) : R17_7 n call (.fn f) df h nx K =
  R17_9 n call (.fn f) df h nx (kThen (R17_10 n call) K) :=
  (congrArg (fun c => kCode (β := CRes) Tryz.prog 47 6 140727019356032 c n call (.fn f) df h nx K) (show (cL (cR (cR (cR C17)))) = (.seq (cL (cL (cR (cR (cR C17))))) (cR (cL (cR (cR (cR C17)))))) by kernel_rfl)).trans (kCode_seq ..)
theorem R17_8_eq (n : Nat) (call : CallF) (f : Nat → Option AV) (df : Defs) (h : Heap) (nx : Nat) (K : KX CRes) : R17_8 n call (.fn f) df h nx K =
  bd (f 5) fun v31 =>
  bd (minV v31 (.int .i64 100000)) fun v32 =>
  K h nx .ret (.fn (tmL f [(4, v32)])) df := by kernel_rfl
theorem R17_9_eq (n : Nat) (call : CallF) (f : Nat → Option AV) (df : Defs) (h : Heap) (nx : Nat) (K : KX CRes) : R17_9 n call (.fn f) df h nx K =
  bd (bd (f 2) fun v33 => (adr 4 v33)) fun v34 =>
  bd (ld1 h v34) fun v35 =>
  bd (lenSl v35) fun v36 =>
  K h nx .normal (.fn (tmL f [(29, (.int .i64 0)), (28, v36)])) df := by kernel_rfl
theorem R17_10_eq (n : Nat) (call : CallF) (f : Nat → Option AV) (df : Defs) (h : Heap) (nx : Nat) (K : KX CRes) : R17_10 n call (.fn f) df h nx K =
  R17_11 n call (.fn f) df h nx (kLeave 0 K) :=
  (congrArg (fun c => kCode (β := CRes) Tryz.prog 47 6 140727019356032 c n call (.fn f) df h nx K) (show (cR (cL (cR (cR (cR C17))))) = (.block 0 (cL (cR (cL (cR (cR (cR C17))))))) by kernel_rfl)).trans (kCode_block ..)
theorem R17_11_eq (n : Nat) (call : CallF) (f : Nat → Option AV) (df : Defs) (h : Heap) (nx : Nat) (K : KX CRes) : R17_11 n call (.fn f) df h nx K =
  kLoop (R17_12 n call) n (.fn f) df h nx K :=
  (congrArg (fun c => kCode (β := CRes) Tryz.prog 47 6 140727019356032 c n call (.fn f) df h nx K) (show (cL (cR (cL (cR (cR (cR C17)))))) = (.loop (cL (cL (cR (cL (cR (cR (cR C17)))))))) by kernel_rfl)).trans (kCode_loop ..)
theorem R17_12_eq (n : Nat) (call : CallF) (f : Nat → Option AV) (df : Defs) (h : Heap) (nx : Nat) (K : KX CRes) : R17_12 n call (.fn f) df h nx K =
  R17_13 n call (.fn f) df h nx (kThen (R17_14 n call) K) :=
  (congrArg (fun c => kCode (β := CRes) Tryz.prog 47 6 140727019356032 c n call (.fn f) df h nx K) (show (cL (cL (cR (cL (cR (cR (cR C17))))))) = (.seq (cL (cL (cL (cR (cL (cR (cR (cR C17)))))))) (cR (cL (cL (cR (cL (cR (cR (cR C17))))))))) by kernel_rfl)).trans (kCode_seq ..)
theorem R17_13_eq (n : Nat) (call : CallF) (f : Nat → Option AV) (df : Defs) (h : Heap) (nx : Nat) (K : KX CRes) : R17_13 n call (.fn f) df h nx K =
  bd (bd (f 29) fun v37 => bd (f 28) fun v38 => (binV .lss (eqT Tryz.prog 8 3) false (!(Tryz.prog.eqGuardType Tryz.prog.depth 3)) v38 v37)) fun v39 =>
  K h nx .normal (.fn (tmL f [(30, v39)])) df := by kernel_rfl
theorem R17_14_eq (n : Nat) (call : CallF) (f : Nat → Option AV) (df : Defs) (h : Heap) (nx : Nat) (K : KX CRes) : R17_14 n call (.fn f) df h nx K =
  R17_15 n call (.fn f) df h nx (kThen (R17_16 n call) K) :=
  (congrArg (fun c => kCode (β := CRes) Tryz.prog 47 6 140727019356032 c n call (.fn f) df h nx K) (show (cR (cL (cL (cR (cL (cR (cR (cR C17)))))))) = (.seq (cL (cR (cL (cL (cR (cL (cR (cR (cR C17))))))))) (cR (cR (cL (cL (cR (cL (cR (cR (cR C17)))))))))) by kernel_rfl)).trans (kCode_seq ..)
theorem R17_15_eq (n : Nat) (call : CallF) (f : Nat → Option AV) (df : Defs) (h : Heap) (nx : Nat) (K : KX CRes) : R17_15 n call (.fn f) df h nx K =
  (bd (f 30) fun v41 => onBool v41 fun b40 => sl b40
  (K h nx .normal (.fn f) df)
  (K h nx (.exit 0) (.fn f) df)) := by kernel_rfl
theorem R17_16_eq (n : Nat) (call : CallF) (f : Nat → Option AV) (df : Defs) (h : Heap) (nx : Nat) (K : KX CRes) : R17_16 n call (.fn f) df h nx K =
  R17_17 n call (.fn f) df h nx (kThen (R17_18 n call) K) :=
  (congrArg (fun c => kCode (β := CRes) Tryz.prog 47 6 140727019356032 c n call (.fn f) df h nx K) (show (cR (cR (cL (cL (cR (cL (cR (cR (cR C17))))))))) = (.seq (cL (cR (cR (cL (cL (cR (cL (cR (cR (cR C17)))))))))) (cR (cR (cR (cL (cL (cR (cL (cR (cR (cR C17))))))))))) by kernel_rfl)).trans (kCode_seq ..)
theorem R17_17_eq (n : Nat) (call : CallF) (f : Nat → Option AV) (df : Defs) (h : Heap) (nx : Nat) (K : KX CRes) : R17_17 n call (.fn f) df h nx K =
  bd (f 29) fun v42 =>
  bd (f 5) fun v43 =>
  bd (binV .lss (eqT Tryz.prog 8 3) true (!(Tryz.prog.eqGuardType Tryz.prog.depth 3)) (.int .i64 100000) v43) fun v44 =>
  onBool v44 fun b45 => sl b45
  (bd (f 5) fun v46 =>
  bd (bd (f 2) fun v47 => (adr 4 v47)) fun v48 =>
  bd (ld1 h v48) fun v49 =>
  bd (idx 5 v49 v42) fun v50 =>
  bd (ldA 5 h v50) fun v51 =>
  bd (f 1) fun v52 =>
  bd (binV .add (eqT Tryz.prog 8 3) true (!(Tryz.prog.eqGuardType Tryz.prog.depth 3)) (.int .i64 1) v52) fun v53 =>
  bd (clR call 17 [v51, v53] h nx) (ares (fun v54 h55 n56 =>
  bd (binV .add (eqT Tryz.prog 8 3) false (!(Tryz.prog.eqGuardType Tryz.prog.depth 3)) v54 v46) fun v57 =>
  K h55 n56 .normal (.fn (tmL f [(5, v57), (33, v44), (6, v42)])) df) (fun v58 h59 n60 => K h59 n60 (.pan v58) (.fn (tmL f [(33, v44), (6, v42)])) df)))
  (K h nx .normal (.fn (tmL f [(33, v44), (6, v42)])) df) := by kernel_rfl
theorem R17_18_eq (n : Nat) (call : CallF) (f : Nat → Option AV) (df : Defs) (h : Heap) (nx : Nat) (K : KX CRes) : R17_18 n call (.fn f) df h nx K =
  bd (bd (f 29) fun v61 => (binV .add (eqT Tryz.prog 8 3) true (!(Tryz.prog.eqGuardType Tryz.prog.depth 3)) (.int .i64 1) v61)) fun v62 =>
  K h nx .normal (.fn (tmL f [(29, v62)])) df := by kernel_rfl
theorem E17_normal (n : Nat) (call : CallF) (f : Nat → Option AV) (h : Heap) (nx : Nat) : E17 n call h nx .normal (.fn f) [] = retL [(f 4)] h nx := by kernel_rfl
theorem E17_ret (n : Nat) (call : CallF) (f : Nat → Option AV) (h : Heap) (nx : Nat) : E17 n call h nx .ret (.fn f) [] = retL [(f 4)] h nx := by kernel_rfl
theorem E17_pan (n : Nat) (call : CallF) (v : AV) (tm : TM) (h : Heap) (nx : Nat) : E17 n call h nx (.pan v) tm [] = some (.pan v h nx) := by kernel_rfl
end Go.Proofs.YtaajedkbaahgfaaGreatDoor

/-
Residual of function 10
-/
namespace Go.Proofs.YtaajedkbaahgfaaGreatDoor
open Go Go.AE
set_option maxRecDepth 100000
/-! touchstone/touchstonelaw07.Few -/
noncomputable def C10 : Code := Tryz.f10.body.getD .skip
noncomputable def E10 (n : Nat) (call : CallF) : KX CRes := kEnd Tryz.prog true locOfF n call (mapL (rsVar Tryz.prog 3) Tryz.f10.results.toList)
noncomputable def F10 (n : Nat) (call : CallF) (a0 : AV) (h : Heap) (nx : Nat) : Option CRes :=
  bd (boxR nx a0) fun r1 =>
  letH (hset h nx r1.2) (Nat.succ nx) fun h2 n3 =>
  bd (ldA 5 h2 r1.1) fun v4 =>
  bd (clR call 17 [v4, (.int .i64 0)] h2 n3) (ares (fun v5 h6 n7 =>
  bd (binV .leq (eqT Tryz.prog 8 3) true (!(Tryz.prog.eqGuardType Tryz.prog.depth 3)) (.int .i64 600) v5) fun v8 =>
  some (.ret v8 h6 n7)) (fun v9 h10 n11 => some (.pan v9 h10 n11)))
theorem F10_eq {sp : Specs} (hsp : sp 10 = none) (n : Nat) (call : CallF) (a0 : AV) (h : Heap) (nx : Nat) : callS Tryz.prog true sp locOfF n call 10 [a0] h nx = F10 n call a0 h nx :=
  (call_eq2 Tryz.func10 (c := C10) (N := 6) (dp := 3) (L := 56) (tm := (.fn (tmL tm0 [(0, a0)]))) (by kernel_rfl) (by kernel_rfl) (by kernel_rfl) (by kernel_rfl) (by kernel_rfl) (by kernel_rfl) hsp n call h nx).trans (by kernel_rfl)
theorem E10_normal (n : Nat) (call : CallF) (f : Nat → Option AV) (h : Heap) (nx : Nat) : E10 n call h nx .normal (.fn f) [] = retL [(f 2)] h nx := by kernel_rfl
theorem E10_ret (n : Nat) (call : CallF) (f : Nat → Option AV) (h : Heap) (nx : Nat) : E10 n call h nx .ret (.fn f) [] = retL [(f 2)] h nx := by kernel_rfl
theorem E10_pan (n : Nat) (call : CallF) (v : AV) (tm : TM) (h : Heap) (nx : Nat) : E10 n call h nx (.pan v) tm [] = some (.pan v h nx) := by kernel_rfl
end Go.Proofs.YtaajedkbaahgfaaGreatDoor

/-
What the functions of the law answer: weight.
-/
namespace Go.EV
mutual
/-- a term's weight, lying so deep -/
def wF : Tm → Nat → Nat
  | .mk _ p s _ kids, deep => if 90 < deep ∨ 300 < kids.length then 100000 else min (wL kids deep (1 + (min p.1 100000 + min s.1 100000) / 20)) 100000
def wL : List Tm → Nat → Nat → Nat
  | [], _, n => n
  | t :: ts, deep, n => wL ts deep (if n < 100000 then n + wF t (deep + 1) else n)
end
theorem wF_le (t : Tm) (deep : Nat) : wF t deep ≤ 100000 := by
  cases t with
  | mk k p s n kids =>
    unfold wF
    split
    · exact Nat.le_refl _
    · exact Nat.min_le_right _ _
theorem wL_mono (deep : Nat) : ∀ (ts : List Tm) (n : Nat), n ≤ wL ts deep n := by
  intro ts
  induction ts with
  | nil => intro n; exact Nat.le_refl _
  | cons t ts ih =>
    intro n
    unfold wL
    split
    · exact Nat.le_trans (Nat.le_add_right _ _) (ih _)
    · exact ih _
theorem wL_mem (deep : Nat) : ∀ (ts : List Tm) (n : Nat) (t : Tm), t ∈ ts → wL ts deep n ≤ 600 → wF t (deep + 1) ≤ 600 := by
  intro ts
  induction ts with
  | nil => intro n t h; cases h
  | cons q ts ih =>
    intro n t h hw
    unfold wL at hw
    have h1 := wL_mono deep ts (if n < 100000 then n + wF q (deep + 1) else n)
    have h2 : n < 100000 := by
      by_cases hn : n < 100000
      · exact hn
      · rw [if_neg hn] at h1 hw; omega
    rw [if_pos h2] at h1 hw
    cases h with
    | head => omega
    | tail _ h => exact ih _ t h hw
/-- short lists all through -/
inductive Sml : Tm → Prop where
  | mk (k : Int) (p s : Str) (n : Int) (kids : List Tm) (hl : kids.length ≤ 300) (h : ∀ t ∈ kids, Sml t) : Sml (.mk k p s n kids)
theorem sml_of (t : Tm) : ∀ deep, wF t deep ≤ 600 → Sml t := by
  refine Tm.rec (motive_1 := fun t => ∀ deep, wF t deep ≤ 600 → Sml t) (motive_2 := fun ts => ∀ t ∈ ts, ∀ deep, wF t deep ≤ 600 → Sml t) ?_ (fun t h => nomatch h) (fun t ts ht hts q hq => ?_) t
  · intro k p s n kids ih deep hw
    unfold wF at hw
    split at hw
    · omega
    · rename_i hn
      have hw2 : wL kids deep (1 + (min p.1 100000 + min s.1 100000) / 20) ≤ 600 := by omega
      exact .mk k p s n kids (by omega) fun t ht => ih t ht (deep + 1) (wL_mem deep kids _ t ht hw2)
  · cases hq with
    | head => exact ht
    | tail _ hq => exact hts q hq
mutual
theorem rdt_sml {B C : Nat} (hC : 300 < C) {σ : Go.EV.Sto} : ∀ {t : Tm} {l : List Go.AE.AV}, RdTB B σ t l → Sml t → RdTB C σ t l
  | _, _, .mk k p s n kids ks hk, hs => .mk k p s n kids ks (rdks_sml hC hk (by cases hs; assumption) (by cases hs; assumption))
theorem rdks_sml {B C : Nat} (hC : 300 < C) {σ : Go.EV.Sto} : ∀ {kids : List Tm} {v : Go.AE.AV}, RdKsB B σ kids v → kids.length ≤ 300 → (∀ t ∈ kids, Sml t) → RdKsB C σ kids v
  | _, _, .nil, _, _ => .nil
  | _, _, .row kids b o cap cs hb _ hs, hl, h => .row kids b o cap cs hb (Nat.lt_of_le_of_lt hl hC) (rds_sml hC hs h)
theorem rds_sml {B C : Nat} (hC : 300 < C) {σ : Go.EV.Sto} : ∀ {kids : List Tm} {cs : List Go.AE.AV} {o : Nat}, RdSB B σ kids cs o → (∀ t ∈ kids, Sml t) → RdSB C σ kids cs o
  | _, _, _, .nil cs o, _ => .nil cs o
  | _, _, _, .cons t ts cs o ht hr, h => .cons t ts cs o (rdt_sml hC ht (h t List.mem_cons_self)) (rds_sml hC hr (fun q hq => h q (List.mem_cons_of_mem _ hq)))
end
end Go.EV

/-
What the functions of the law answer: weight.
-/
namespace Go.Proofs.YtaajedkbaahgfaaGreatDoor
open Go Go.AE Go.EV
set_option maxRecDepth 100000
set_option maxHeartbeats 2000000
theorem sp17 : spL 17 = none := rfl
theorem sp10 : spL 10 = none := rfl
theorem wrap_nat {m : Nat} (h : m < 9223372036854775808) : wrapF .i64 (Int.ofNat m) = (m : Int) := by
  show sel (Nat.blt m (top .i64)) (Int.ofNat m) (IntKind.wrap .i64 (Int.ofNat m)) = (m : Int)
  have : Nat.blt m (top .i64) = true := by
    rw [Nat.blt_eq]; exact h
  rw [this]; rfl
theorem quo20 {S : Nat} (h : S < 9223372036854775808) : intBin .quo .i64 (S : Int) 20 = some (.int .i64 ((S / 20 : Nat) : Int)) := by
  show some (AV.int .i64 (wrapF .i64 (Int.ofNat (S / 20)))) = _
  rw [wrap_nat (by omega)]
theorem add_nat {a b : Nat} (h : a + b < 9223372036854775808) : wrapF .i64 (addI (a : Int) (b : Int)) = ((a + b : Nat) : Int) := by
  rw [add_small (by omega) (by omega) (by omega)]; omega
theorem min_nat (a b : Nat) : minV (.int .i64 (a : Int)) (.int .i64 (b : Int)) = some (.int .i64 ((min a b : Nat) : Int)) := by
  rw [r_minV, ltI_nat]
  by_cases hb : b < a
  · rw [decide_eq_true hb, show min a b = b by omega]; rfl
  · rw [decide_eq_false hb, show min a b = a by omega]; rfl
def WtOk (B : Nat) (t : Tm) : Prop := ∀ (h : Heap) (nx m : Nat) (σ : Sto) (l : List AV) (deep : Nat), Mem h nx m σ → RdTB B σ t l → deep ≤ 91 →
  ∃ h' nx' σ', Later h nx m σ h' nx' σ' ∧ Rn 17 [.agg l, .int .i64 (deep : Int)] h nx (.ret (.int .i64 (wF t deep : Int)) h' nx')
theorem wt_loop {B : Nat} (t : Tm) (hl300 : t.kids.length ≤ 300) (m b1 deep : Nat) (hd : deep ≤ 90) (l1 : List AV) : ∀ (ts : List Tm) (i acc : Nat) (h : Heap) (nx : Nat) (σ : Sto) (j : Nat) (f : Nat → Option AV),
    (∀ q ∈ ts, WtOk B q) → t.kids.drop i = ts → acc < 300000 → Mem h nx m σ → σ b1 = some (.cells l1) → RdTB B σ t l1 →
    f 1 = some (.int .i64 (deep : Int)) → f 2 = some (.ptr b1 0) → f 5 = some (.int .i64 (acc : Int)) → f 28 = some (.int .i64 (t.kids.length : Int)) → f 29 = some (.int .i64 (i : Int)) →
    ∃ h' nx' σ', Later h nx m σ h' nx' σ' ∧ Ev (fun n d => kLoop (R17_12 n (CN n d)) (n - j) (.fn f) [] h nx (kLeave 0 (kThen (R17_8 n (CN n d)) (E17 n (CN n d))))) (.ret (.int .i64 ((min (wL ts deep acc) 100000 : Nat) : Int)) h' nx') := by
  intro ts
  induction ts with
  | nil =>
    intro i acc h nx σ j f _ hts hacc hm h1 hr1 f1 f2 f5 f28 f29
    have hge : ¬ i < t.kids.length := by have := congrArg List.length hts; simp at this; omega
    have hlt : ltI (i : Int) (t.kids.length : Int) = false := by rw [ltI_nat]; simpa using hge
    have hmin := min_nat acc 100000
    refine ⟨h, nx, σ, Later.refl hm, ?_⟩
    refine Ev.round (B := fun n d => R17_12 n (CN n d)) (tm := fun _ _ => .fn f) (K := fun n d => kLeave 0 (kThen (R17_8 n (CN n d)) (E17 n (CN n d)))) ?_
    refine Ev.pure fun n d => ?_
    show _ = some (CRes.ret (.int .i64 ((min acc 100000 : Nat) : Int)) h nx)
    have hmin' : sl (ltI 100000 (acc : Int)) (100000 : Int) (acc : Int) = ((min acc 100000 : Nat) : Int) := by
      have := hmin; rw [r_minV] at this; injection this with e; injection e
    repeat (first | simp -eta only [SY, ↓reduceIte, Nat.reduceEqDiff, Nat.reduceAdd, f5, f28, f29, hlt, hmin'] | simp -eta only [KY, ↓reduceIte, Nat.reduceEqDiff, R17_12_eq, R17_13_eq, R17_14_eq, R17_15_eq, R17_8_eq, E17_ret])
  | cons q ts ih =>
    intro i acc h nx σ j f hok hts hacc hm h1 hr1 f1 f2 f5 f28 f29
    obtain ⟨k1, hl1, hk1⟩ := rdt_inv hr1
    have hi := drop_lt hts
    have hlt : ltI (i : Int) (t.kids.length : Int) = true := by rw [ltI_nat]; simpa using hi
    have hg1 := hm.sat b1 _ h1
    have c4 : l1[4]? = some k1 := by rw [hl1]; rfl
    obtain ⟨p1, o1, cap1, e1, ⟨cs1, hb1, hq1⟩, hbl, hbig⟩ := rdks_at hk1 hts
    have i1 : idx 5 k1 (.int .i64 (i : Int)) = some (.ptr p1 (o1 + i * 5)) := by rw [e1]; exact (r_idx 5 p1 o1 _ 5 cap1 .i64 i).trans (by rw [hbl]; rfl)
    have g1 := hm.sat p1 _ hb1
    have hq5 : ((cs1.drop (o1 + i * 5)).take 5).length = 5 := by obtain ⟨k, hk, _⟩ := rdt_inv hq1; rw [hk]; rfl
    have r1 : (pkAgg 5).run cs1 (o1 + i * 5) = some (.agg ((cs1.drop (o1 + i * 5)).take 5)) := pkAgg_run rfl hq5
    have hinc := inc_small hi (by omega)
    by_cases ha : acc < 100000
    · have hla : ltI (acc : Int) 100000 = true := by rw [show (100000 : Int) = ((100000 : Nat) : Int) from rfl, ltI_nat]; simpa using ha
      have hd1 : wrapF .i64 (addI (deep : Int) 1) = ((deep + 1 : Nat) : Int) := add_nat (b := 1) (by omega)
      obtain ⟨h3, n3, σ3, L3, hrun⟩ := hok q (List.mem_cons_self) h nx m σ _ (deep + 1) hm hq1 (by omega)
      have hw := wF_le q (deep + 1)
      have hsum := add_nat (a := acc) (b := wF q (deep + 1)) (by omega)
      obtain ⟨h4, n4, σ4, L4, hrun4⟩ := ih (i + 1) (acc + wF q (deep + 1)) h3 n3 σ3 (j + 1) (tmL (tmL (tmL f [(30, .bool true)]) [(5, .int .i64 ((acc + wF q (deep + 1) : Nat) : Int)), (33, .bool true), (6, .int .i64 (i : Int))]) [(29, .int .i64 ((i + 1 : Nat) : Int))])
        (fun q hq => hok q (List.mem_cons_of_mem _ hq)) (drop_tail hts) (by omega) L3.mem (L3.sle _ _ h1) (hr1.mono L3.sle) f1 f2 rfl f28 rfl
      have hW : wL (q :: ts) deep acc = wL ts deep (acc + wF q (deep + 1)) := by rw [wL, if_pos ha]
      rw [hW]
      refine ⟨h4, n4, σ4, L3.trans L4, ?_⟩
      refine Ev.round (B := fun n d => R17_12 n (CN n d)) (tm := fun _ _ => .fn f) (K := fun n d => kLeave 0 (kThen (R17_8 n (CN n d)) (E17 n (CN n d)))) ?_
      repeat (first | simp -eta only [SY, ↓reduceIte, Nat.reduceEqDiff, Nat.reduceAdd, f1, f2, f5, f28, f29, hlt, hla, r_loadB _ _ hg1, c4, i1, r_loadB _ _ g1, r1, hd1] | simp -eta only [KY, ↓reduceIte, Nat.reduceEqDiff, R17_12_eq, R17_13_eq, R17_14_eq, R17_15_eq, R17_16_eq, R17_17_eq])
      refine Ev.call hrun ?_
      repeat (first | simp -eta only [SY, ↓reduceIte, Nat.reduceEqDiff, Nat.reduceAdd, f29, hinc, hsum] | simp -eta only [KY, ↓reduceIte, Nat.reduceEqDiff, R17_18_eq])
      exact hrun4
    · have hla : ltI (acc : Int) 100000 = false := by rw [show (100000 : Int) = ((100000 : Nat) : Int) from rfl, ltI_nat]; simpa using ha
      obtain ⟨h4, n4, σ4, L4, hrun4⟩ := ih (i + 1) acc h nx σ (j + 1) (tmL (tmL (tmL f [(30, .bool true)]) [(33, .bool false), (6, .int .i64 (i : Int))]) [(29, .int .i64 ((i + 1 : Nat) : Int))])
        (fun q hq => hok q (List.mem_cons_of_mem _ hq)) (drop_tail hts) hacc hm h1 hr1 f1 f2 f5 f28 rfl
      have hW : wL (q :: ts) deep acc = wL ts deep acc := by rw [wL, if_neg ha]
      rw [hW]
      refine ⟨h4, n4, σ4, L4, ?_⟩
      refine Ev.round (B := fun n d => R17_12 n (CN n d)) (tm := fun _ _ => .fn f) (K := fun n d => kLeave 0 (kThen (R17_8 n (CN n d)) (E17 n (CN n d)))) ?_
      repeat (first | simp -eta only [SY, ↓reduceIte, Nat.reduceEqDiff, Nat.reduceAdd, f1, f2, f5, f28, f29, hlt, hla, hinc] | simp -eta only [KY, ↓reduceIte, Nat.reduceEqDiff, R17_12_eq, R17_13_eq, R17_14_eq, R17_15_eq, R17_16_eq, R17_17_eq, R17_18_eq])
      exact hrun4
theorem gt_nat (a b : Nat) : ltI (b : Int) (a : Int) = decide (b < a) := ltI_nat b a
theorem wt_ok {B : Nat} (t : Tm) : WtOk B t := by
  refine Tm.rec (motive_1 := WtOk B) (motive_2 := fun ps => ∀ t ∈ ps, WtOk B t) ?_ (fun t h => nomatch h) (fun t ts ht hts q hq => ?_) t
  · intro k pk s nn kids ih h nx m σ l1 deep hm hr1 hdp
    generalize hte : Tm.mk k pk s nn kids = t at hr1 ⊢
    have hkids : t.kids = kids := by rw [← hte]; rfl
    have hwF : wF t deep = if 90 < deep ∨ 300 < t.kids.length then 100000 else min (wL t.kids deep (1 + (min t.pkg.1 100000 + min t.name.1 100000) / 20)) 100000 := by rw [← hte, wF]; rfl
    obtain ⟨k1, hl1, hk1⟩ := rdt_inv hr1
    have hlen1 := rdks_len hk1
    have hb1 : boxR nx (.agg l1) = some (.ptr nx 0, .cells l1) := by
      show gd (Nat.blt 0 (llen l1)) _ = _
      rw [llen_eq, hl1]; rfl
    have L1 := hm.make (id := nx) (nx' := nx + 1) (.cells l1) (Nat.le_refl _) (Nat.lt_succ_self _)
    have g1 := L1.mem.sat _ _ (sput_self _ _ _)
    have a1 : l1[1]? = some (.str t.pkg.1 t.pkg.2) := by rw [hl1]; rfl
    have a2 : l1[2]? = some (.str t.name.1 t.name.2) := by rw [hl1]; rfl
    have a4 : l1[4]? = some k1 := by rw [hl1]; rfl
    by_cases hd : 90 < deep
    · have hd' : ltI 90 (deep : Int) = true := by rw [show (90 : Int) = ((90 : Nat) : Int) from rfl, ltI_nat]; simpa using hd
      rw [hwF, if_pos (.inl hd)]
      refine ⟨_, nx + 1, _, L1, ?_⟩
      refine Rn.of (f := 17) (l := [.agg l1, .int .i64 (deep : Int)]) (g := fun n d => F17 n (CN n d) (.agg l1) (deep : Int) h nx) (fun n d => F17_eq sp17 n (CN n d) (.agg l1) (deep : Int) h nx) (Ev.pure fun n d => ?_)
      show F17 n (CN n d) (.agg l1) (deep : Int) h nx = some (CRes.ret (.int .i64 100000) _ _)
      unfold F17
      repeat (first | simp -eta only [SY, ↓reduceIte, Nat.reduceEqDiff, Nat.reduceAdd, hb1, hd'] | simp -eta only [KY, ↓reduceIte, Nat.reduceEqDiff, R17_0_eq, R17_1_eq, R17_2_eq, R17_3_eq, E17_ret])
    have hd' : ltI 90 (deep : Int) = false := by rw [show (90 : Int) = ((90 : Nat) : Int) from rfl, ltI_nat]; simpa using hd
    by_cases h3 : 300 < t.kids.length
    · have h3' : ltI 300 (t.kids.length : Int) = true := by rw [show (300 : Int) = ((300 : Nat) : Int) from rfl, ltI_nat]; simpa using h3
      rw [hwF, if_pos (.inr h3)]
      refine ⟨_, nx + 1, _, L1, ?_⟩
      refine Rn.of (f := 17) (l := [.agg l1, .int .i64 (deep : Int)]) (g := fun n d => F17 n (CN n d) (.agg l1) (deep : Int) h nx) (fun n d => F17_eq sp17 n (CN n d) (.agg l1) (deep : Int) h nx) (Ev.pure fun n d => ?_)
      show F17 n (CN n d) (.agg l1) (deep : Int) h nx = some (CRes.ret (.int .i64 100000) _ _)
      unfold F17
      repeat (first | simp -eta only [SY, ↓reduceIte, Nat.reduceEqDiff, Nat.reduceAdd, hb1, hd', r_loadB _ _ g1, a4, hlen1, h3'] | simp -eta only [KY, ↓reduceIte, Nat.reduceEqDiff, R17_0_eq, R17_1_eq, R17_2_eq, R17_3_eq, E17_ret])
    have h3' : ltI 300 (t.kids.length : Int) = false := by rw [show (300 : Int) = ((300 : Nat) : Int) from rfl, ltI_nat]; simpa using h3
    rw [hwF, if_neg (by omega)]
    have m1 : sl (ltI 100000 (t.pkg.1 : Int)) (100000 : Int) (t.pkg.1 : Int) = ((min t.pkg.1 100000 : Nat) : Int) := by
      have := min_nat t.pkg.1 100000; rw [r_minV] at this; injection this with e; injection e
    have m2 : sl (ltI 100000 (t.name.1 : Int)) (100000 : Int) (t.name.1 : Int) = ((min t.name.1 100000 : Nat) : Int) := by
      have := min_nat t.name.1 100000; rw [r_minV] at this; injection this with e; injection e
    have hS := add_nat (a := min t.pkg.1 100000) (b := min t.name.1 100000) (by omega)
    have hQ := quo20 (S := min t.pkg.1 100000 + min t.name.1 100000) (by omega)
    have hA : wrapF .i64 (addI 1 ((min t.pkg.1 100000 + min t.name.1 100000) / 20 : Nat)) = ((1 + (min t.pkg.1 100000 + min t.name.1 100000) / 20 : Nat) : Int) := add_nat (a := 1) (by omega)
    obtain ⟨h4, n4, σ4, L4, hrun⟩ := wt_loop t (by omega) m nx deep (by omega) l1 t.kids 0 (1 + (min t.pkg.1 100000 + min t.name.1 100000) / 20) _ _ _ 0
      (tmL (tmL (tmL (tmL (tmL tm0 [(1, .int .i64 (deep : Int)), (0, .agg l1)]) [(4, .int .i64 0), (2, .ptr nx 0)]) [(14, .bool false)]) [(5, .int .i64 ((1 + (min t.pkg.1 100000 + min t.name.1 100000) / 20 : Nat) : Int))]) [(29, .int .i64 0), (28, .int .i64 (t.kids.length : Int))])
      (by rw [hkids]; exact ih) rfl (by omega) L1.mem (sput_self _ _ _) (hr1.mono L1.sle) rfl rfl rfl rfl rfl
    refine ⟨h4, n4, σ4, L1.trans L4, ?_⟩
    refine Rn.of (f := 17) (l := [.agg l1, .int .i64 (deep : Int)]) (g := fun n d => F17 n (CN n d) (.agg l1) (deep : Int) h nx) (fun n d => F17_eq sp17 n (CN n d) (.agg l1) (deep : Int) h nx) ?_
    unfold F17
    have onS : ∀ (a b : Nat), (onStr (.str a b) fun m _ => some (AV.int .i64 (Int.ofNat m))) = some (.int .i64 (a : Int)) := fun _ _ => rfl
    have hQ' : ∀ e g1 g2, binV .quo e g1 g2 (.int .i64 20) (.int .i64 ((min t.pkg.1 100000 + min t.name.1 100000 : Nat) : Int)) = some (.int .i64 (((min t.pkg.1 100000 + min t.name.1 100000) / 20 : Nat) : Int)) := fun _ _ _ => hQ
    repeat (first | simp -eta only [SY, ↓reduceIte, Nat.reduceEqDiff, Nat.reduceAdd, hb1, hd', r_loadB _ _ g1, a4, hlen1, h3', a1, a2, onS, m1, m2, hS, hQ, hA] | simp -eta only [KY, ↓reduceIte, Nat.reduceEqDiff, R17_0_eq, R17_1_eq, R17_2_eq, R17_3_eq, R17_4_eq, R17_5_eq, R17_6_eq, R17_7_eq, R17_9_eq, R17_10_eq, R17_11_eq])
    exact Ev.loop (B := fun n d => R17_12 n (CN n d)) (tm := fun _ _ => .fn _) hrun
  · cases hq with
    | head => exact ht
    | tail _ hq => exact hts q hq
end Go.Proofs.YtaajedkbaahgfaaGreatDoor

/-
Residual of function 18
-/
namespace Go.Proofs.YtaajedkbaahgfaaGreatDoor
open Go Go.AE
set_option maxRecDepth 100000
/-! touchstone/touchstonelaw07.FewAll -/
noncomputable def C18 : Code := Tryz.f18.body.getD .skip
noncomputable def E18 (n : Nat) (call : CallF) : KX CRes := kEnd Tryz.prog true locOfF n call (mapL (rsVar Tryz.prog 5) Tryz.f18.results.toList)
noncomputable def R18_0 (n : Nat) (call : CallF) : TM → Defs → Heap → Nat → KX CRes → Option CRes := kCode (β := CRes) Tryz.prog 24 5 16773088 C18 n call
noncomputable def R18_1 (n : Nat) (call : CallF) : TM → Defs → Heap → Nat → KX CRes → Option CRes := kCode (β := CRes) Tryz.prog 24 5 16773088 (cL C18) n call
noncomputable def R18_2 (n : Nat) (call : CallF) : TM → Defs → Heap → Nat → KX CRes → Option CRes := kCode (β := CRes) Tryz.prog 24 5 16773088 (cR C18) n call
noncomputable def R18_3 (n : Nat) (call : CallF) : TM → Defs → Heap → Nat → KX CRes → Option CRes := kCode (β := CRes) Tryz.prog 24 5 16773088 (cL (cR C18)) n call
noncomputable def R18_4 (n : Nat) (call : CallF) : TM → Defs → Heap → Nat → KX CRes → Option CRes := kCode (β := CRes) Tryz.prog 24 5 16773088 (cR (cR C18)) n call
noncomputable def R18_5 (n : Nat) (call : CallF) : TM → Defs → Heap → Nat → KX CRes → Option CRes := kCode (β := CRes) Tryz.prog 24 5 16773088 (cL (cR (cR C18))) n call
noncomputable def R18_6 (n : Nat) (call : CallF) : TM → Defs → Heap → Nat → KX CRes → Option CRes := kCode (β := CRes) Tryz.prog 24 5 16773088 (cR (cR (cR C18))) n call
noncomputable def R18_7 (n : Nat) (call : CallF) : TM → Defs → Heap → Nat → KX CRes → Option CRes := kCode (β := CRes) Tryz.prog 24 5 16773088 (cL (cL (cR (cR C18)))) n call
noncomputable def R18_8 (n : Nat) (call : CallF) : TM → Defs → Heap → Nat → KX CRes → Option CRes := kCode (β := CRes) Tryz.prog 24 5 16773088 (cR (cL (cR (cR C18)))) n call
noncomputable def R18_9 (n : Nat) (call : CallF) : TM → Defs → Heap → Nat → KX CRes → Option CRes := kCode (β := CRes) Tryz.prog 24 5 16773088 (cL (cR (cL (cR (cR C18))))) n call
noncomputable def R18_10 (n : Nat) (call : CallF) : TM → Defs → Heap → Nat → KX CRes → Option CRes := kCode (β := CRes) Tryz.prog 24 5 16773088 (cL (cL (cR (cL (cR (cR C18)))))) n call
noncomputable def F18 (n : Nat) (call : CallF) (a0 : AV) (h : Heap) (nx : Nat) : Option CRes :=
  R18_0 n call (.fn (tmL tm0 [(0, a0)])) [] h nx (E18 n call)
theorem F18_eq {sp : Specs} (hsp : sp 18 = none) (n : Nat) (call : CallF) (a0 : AV) (h : Heap) (nx : Nat) : callS Tryz.prog true sp locOfF n call 18 [a0] h nx = F18 n call a0 h nx :=
  (call_eq2 Tryz.func18 (c := C18) (N := 24) (dp := 5) (L := 16773088) (tm := (.fn (tmL tm0 [(0, a0)]))) (by kernel_rfl) (by kernel_rfl) (by kernel_rfl) (by kernel_rfl) (by kernel_rfl) (by kernel_rfl) hsp n call h nx).trans (by kernel_rfl)
theorem R18_0_eq (n : Nat) (call : CallF) (f : Nat → Option AV) (df : Defs) (h : Heap) (nx : Nat) (K : KX CRes) : R18_0 n call (.fn f) df h nx K =
  R18_1 n call (.fn f) df h nx (kThen (R18_2 n call) K) :=
  (congrArg (fun c => kCode (β := CRes) Tryz.prog 24 5 16773088 c n call (.fn f) df h nx K) (show C18 = (.seq (cL C18) (cR C18)) by kernel_rfl)).trans (kCode_seq ..)
theorem R18_1_eq (n : Nat) (call : CallF) (f : Nat → Option AV) (df : Defs) (h : Heap) (nx : Nat) (K : KX CRes) : R18_1 n call (.fn f) df h nx K =
  K h nx .normal (.fn (tmL f [(2, (.bool false))])) df := by kernel_rfl
theorem R18_2_eq (n : Nat) (call : CallF) (f : Nat → Option AV) (df : Defs) (h : Heap) (nx : Nat) (K : KX CRes) : R18_2 n call (.fn f) df h nx K =
  R18_3 n call (.fn f) df h nx (kThen (R18_4 n call) K) :=
  (congrArg (fun c => kCode (β := CRes) Tryz.prog 24 5 16773088 c n call (.fn f) df h nx K) (show (cR C18) = (.seq (cL (cR C18)) (cR (cR C18))) by kernel_rfl)).trans (kCode_seq ..)
theorem R18_3_eq (n : Nat) (call : CallF) (f : Nat → Option AV) (df : Defs) (h : Heap) (nx : Nat) (K : KX CRes) : R18_3 n call (.fn f) df h nx K =
  K h nx .normal (.fn (tmL f [(3, (.int .i64 0))])) df := by kernel_rfl
theorem R18_4_eq (n : Nat) (call : CallF) (f : Nat → Option AV) (df : Defs) (h : Heap) (nx : Nat) (K : KX CRes) : R18_4 n call (.fn f) df h nx K =
  R18_5 n call (.fn f) df h nx (kThen (R18_6 n call) K) :=
  (congrArg (fun c => kCode (β := CRes) Tryz.prog 24 5 16773088 c n call (.fn f) df h nx K) (show (cR (cR C18)) = (.seq (cL (cR (cR C18))) (cR (cR (cR C18)))) by kernel_rfl)).trans (kCode_seq ..)
theorem R18_5_eq (n : Nat) (call : CallF) (f : Nat → Option AV) (df : Defs) (h : Heap) (nx : Nat) (K : KX CRes) : R18_5 n call (.fn f) df h nx K =
  R18_7 n call (.fn f) df h nx (kThen (R18_8 n call) K) :=
  (congrArg (fun c => kCode (β := CRes) Tryz.prog 24 5 16773088 c n call (.fn f) df h nx K) (show (cL (cR (cR C18))) = (.seq (cL (cL (cR (cR C18)))) (cR (cL (cR (cR C18))))) by kernel_rfl)).trans (kCode_seq ..)
theorem R18_6_eq (n : Nat) (call : CallF) (f : Nat → Option AV) (df : Defs) (h : Heap) (nx : Nat) (K : KX CRes) : R18_6 n call (.fn f) df h nx K =
  bd (f 3) fun v1 =>
  bd (binV .leq (eqT Tryz.prog 8 3) true (!(Tryz.prog.eqGuardType Tryz.prog.depth 3)) (.int .i64 600) v1) fun v2 =>
  K h nx .ret (.fn (tmL f [(2, v2)])) df := by kernel_rfl
theorem R18_7_eq (n : Nat) (call : CallF) (f : Nat → Option AV) (df : Defs) (h : Heap) (nx : Nat) (K : KX CRes) : R18_7 n call (.fn f) df h nx K =
  K h nx .normal (.fn (tmL f [(4, (.int .i64 0))])) df := by kernel_rfl
theorem R18_8_eq (n : Nat) (call : CallF) (f : Nat → Option AV) (df : Defs) (h : Heap) (nx : Nat) (K : KX CRes) : R18_8 n call (.fn f) df h nx K =
  R18_9 n call (.fn f) df h nx (kLeave 0 K) :=
  (congrArg (fun c => kCode (β := CRes) Tryz.prog 24 5 16773088 c n call (.fn f) df h nx K) (show (cR (cL (cR (cR C18)))) = (.block 0 (cL (cR (cL (cR (cR C18)))))) by kernel_rfl)).trans (kCode_block ..)
theorem R18_9_eq (n : Nat) (call : CallF) (f : Nat → Option AV) (df : Defs) (h : Heap) (nx : Nat) (K : KX CRes) : R18_9 n call (.fn f) df h nx K =
  kLoop (R18_10 n call) n (.fn f) df h nx K :=
  (congrArg (fun c => kCode (β := CRes) Tryz.prog 24 5 16773088 c n call (.fn f) df h nx K) (show (cL (cR (cL (cR (cR C18))))) = (.loop (cL (cL (cR (cL (cR (cR C18))))))) by kernel_rfl)).trans (kCode_loop ..)
theorem R18_10_eq (n : Nat) (call : CallF) (f : Nat → Option AV) (df : Defs) (h : Heap) (nx : Nat) (K : KX CRes) : R18_10 n call (.fn f) df h nx K =
  bd (f 4) fun v3 =>
  bd (f 0) fun v4 =>
  bd (lenSl v4) fun v5 =>
  bd (binV .lss (eqT Tryz.prog 8 3) false (!(Tryz.prog.eqGuardType Tryz.prog.depth 3)) v5 v3) fun v6 =>
  bd (wantV true v6) fun b7 => bd (sl b7 ((f 3)) (some (.tuple []))) fun v8 =>
  bd (wantV true v6) fun b9 => bd (sl b9 ((binV .leq (eqT Tryz.prog 8 3) true (!(Tryz.prog.eqGuardType Tryz.prog.depth 3)) (.int .i64 600) v8)) (some (.tuple []))) fun v10 =>
  bd (pickV v6 v10 (.bool false)) fun v11 =>
  onBool v11 fun b12 => sl b12
  (bd (f 3) fun v13 =>
  bd (f 0) fun v14 =>
  bd (f 4) fun v15 =>
  bd (idx 5 v14 v15) fun v16 =>
  bd (ldA 5 h v16) fun v17 =>
  bd (clR call 17 [v17, (.int .i64 0)] h nx) (ares (fun v18 h19 n20 =>
  bd (binV .add (eqT Tryz.prog 8 3) false (!(Tryz.prog.eqGuardType Tryz.prog.depth 3)) v18 v13) fun v21 =>
  bd (f 4) fun v22 =>
  bd (binV .add (eqT Tryz.prog 8 3) true (!(Tryz.prog.eqGuardType Tryz.prog.depth 3)) (.int .i64 1) v22) fun v23 =>
  K h19 n20 .normal (.fn (tmL f [(4, v23), (3, v21), (12, v11)])) df) (fun v24 h25 n26 => K h25 n26 (.pan v24) (.fn (tmL f [(12, v11)])) df)))
  (K h nx (.exit 0) (.fn (tmL f [(12, v11)])) df) := by kernel_rfl
theorem E18_normal (n : Nat) (call : CallF) (f : Nat → Option AV) (h : Heap) (nx : Nat) : E18 n call h nx .normal (.fn f) [] = retL [(f 2)] h nx := by kernel_rfl
theorem E18_ret (n : Nat) (call : CallF) (f : Nat → Option AV) (h : Heap) (nx : Nat) : E18 n call h nx .ret (.fn f) [] = retL [(f 2)] h nx := by kernel_rfl
theorem E18_pan (n : Nat) (call : CallF) (v : AV) (tm : TM) (h : Heap) (nx : Nat) : E18 n call h nx (.pan v) tm [] = some (.pan v h nx) := by kernel_rfl
end Go.Proofs.YtaajedkbaahgfaaGreatDoor

/-
What the functions of the law answer: K.Few.
-/
namespace Go.Proofs.YtaajedkbaahgfaaGreatDoor
open Go Go.AE Go.EV
set_option maxRecDepth 100000
set_option maxHeartbeats 2000000
theorem le_nat (a b : Nat) : nt (ltI (b : Int) (a : Int)) = decide (a ≤ b) := by rw [nt_lt]; simp
theorem few_ok {B : Nat} (t : Tm) {h : Heap} {nx m : Nat} {σ : Sto} {l : List AV} (hm : Mem h nx m σ) (hr : RdTB B σ t l) :
    ∃ h' nx' σ', Later h nx m σ h' nx' σ' ∧ Rn 10 [.agg l] h nx (.ret (.bool (decide (wF t 0 ≤ 600))) h' nx') := by
  obtain ⟨k1, hl1, hk1⟩ := rdt_inv hr
  have hb1 : boxR nx (.agg l) = some (.ptr nx 0, .cells l) := by
    show gd (Nat.blt 0 (llen l)) _ = _
    rw [llen_eq, hl1]; rfl
  have L1 := hm.make (id := nx) (nx' := nx + 1) (.cells l) (Nat.le_refl _) (Nat.lt_succ_self _)
  have g1 := L1.mem.sat _ _ (sput_self _ _ _)
  have h5 : l.length = 5 := by rw [hl1]; rfl
  have r1 : (pkAgg 5).run l 0 = some (.agg l) := pkAgg_run (by rw [List.drop_zero, List.take_of_length_le (by omega)]) h5
  obtain ⟨h3, n3, σ3, L3, hrun⟩ := wt_ok t _ _ m _ l 0 L1.mem (hr.mono L1.sle) (by omega)
  refine ⟨h3, n3, σ3, L1.trans L3, ?_⟩
  refine Rn.of (f := 10) (l := [.agg l]) (g := fun n d => F10 n (CN n d) (.agg l) h nx) (fun n d => F10_eq sp10 n (CN n d) (.agg l) h nx) ?_
  unfold F10
  have hle : nt (ltI 600 (wF t 0 : Int)) = decide (wF t 0 ≤ 600) := le_nat (wF t 0) 600
  repeat (first | simp -eta only [SY, ↓reduceIte, Nat.reduceEqDiff, Nat.reduceAdd, hb1, r_loadB _ _ g1, r1] | simp -eta only [KY, ↓reduceIte, Nat.reduceEqDiff])
  refine Ev.call hrun ?_
  refine Ev.pure fun n d => ?_
  repeat (first | simp -eta only [SY, ↓reduceIte, Nat.reduceEqDiff, Nat.reduceAdd, hle] | simp -eta only [KY, ↓reduceIte, Nat.reduceEqDiff])
/-- the weight of some, as far as it is looked at -/
def wA : List Tm → Nat → Nat
  | [], n => n
  | t :: ts, n => if n ≤ 600 then wA ts (n + wF t 0) else n
theorem wA_mono : ∀ (ts : List Tm) (n : Nat), n ≤ wA ts n := by
  intro ts
  induction ts with
  | nil => intro n; exact Nat.le_refl _
  | cons t ts ih =>
    intro n
    unfold wA
    split
    · exact Nat.le_trans (Nat.le_add_right _ _) (ih _)
    · exact Nat.le_refl _
theorem wA_mem : ∀ (ts : List Tm) (n : Nat) (t : Tm), t ∈ ts → wA ts n ≤ 600 → wF t 0 ≤ 600 := by
  intro ts
  induction ts with
  | nil => intro n t h; cases h
  | cons q ts ih =>
    intro n t h hw
    unfold wA at hw
    split at hw
    · have := wA_mono ts (n + wF q 0)
      cases h with
      | head => omega
      | tail _ h => exact ih _ t h hw
    · omega
theorem sp18 : spL 18 = none := rfl
theorem fewAll_loop {B : Nat} (hB : B ≤ 9223372036854775808) (kids : List Tm) (ks : AV) (m : Nat) : ∀ (ts : List Tm) (i acc : Nat) (h : Heap) (nx : Nat) (σ : Sto) (j : Nat) (f : Nat → Option AV),
    kids.drop i = ts → acc < 300000 → Mem h nx m σ → RdKsB B σ kids ks →
    f 0 = some ks → f 3 = some (.int .i64 (acc : Int)) → f 4 = some (.int .i64 (i : Int)) →
    ∃ h' nx' σ', Later h nx m σ h' nx' σ' ∧ Ev (fun n d => kLoop (R18_10 n (CN n d)) (n - j) (.fn f) [] h nx (kLeave 0 (kThen (R18_6 n (CN n d)) (E18 n (CN n d))))) (.ret (.bool (decide (wA ts acc ≤ 600))) h' nx') := by
  intro ts
  induction ts with
  | nil =>
    intro i acc h nx σ j f hts hacc hm hk f0 f3 f4
    have hge : ¬ i < kids.length := by have := congrArg List.length hts; simp at this; omega
    have hlt : ltI (i : Int) (kids.length : Int) = false := by rw [ltI_nat]; simpa using hge
    have hlen := rdks_len hk
    have hle : nt (ltI 600 (acc : Int)) = decide (acc ≤ 600) := le_nat acc 600
    refine ⟨h, nx, σ, Later.refl hm, ?_⟩
    refine Ev.round (B := fun n d => R18_10 n (CN n d)) (tm := fun _ _ => .fn f) (K := fun n d => kLeave 0 (kThen (R18_6 n (CN n d)) (E18 n (CN n d)))) ?_
    refine Ev.pure fun n d => ?_
    show _ = some (CRes.ret (.bool (decide (acc ≤ 600))) h nx)
    repeat (first | simp -eta only [SY, ↓reduceIte, Nat.reduceEqDiff, Nat.reduceAdd, f0, f3, f4, hlen, hlt, hle] | simp -eta only [KY, ↓reduceIte, Nat.reduceEqDiff, R18_10_eq, R18_6_eq, E18_ret])
  | cons q ts ih =>
    intro i acc h nx σ j f hts hacc hm hk f0 f3 f4
    have hlen := rdks_len hk
    have hi := drop_lt hts
    have hlt : ltI (i : Int) (kids.length : Int) = true := by rw [ltI_nat]; simpa using hi
    have hle : nt (ltI 600 (acc : Int)) = decide (acc ≤ 600) := le_nat acc 600
    obtain ⟨p1, o1, cap1, e1, ⟨cs1, hb1, hq1⟩, hbl, hbig⟩ := rdks_at hk hts
    have i1 : idx 5 ks (.int .i64 (i : Int)) = some (.ptr p1 (o1 + i * 5)) := by rw [e1]; exact (r_idx 5 p1 o1 _ 5 cap1 .i64 i).trans (by rw [hbl]; rfl)
    have g1 := hm.sat p1 _ hb1
    have hq5 : ((cs1.drop (o1 + i * 5)).take 5).length = 5 := by obtain ⟨k, hk, _⟩ := rdt_inv hq1; rw [hk]; rfl
    have r1 : (pkAgg 5).run cs1 (o1 + i * 5) = some (.agg ((cs1.drop (o1 + i * 5)).take 5)) := pkAgg_run rfl hq5
    have hinc := inc_small hi (by omega)
    unfold wA
    by_cases ha : acc ≤ 600
    · rw [if_pos ha]
      have hla : nt (ltI 600 (acc : Int)) = true := by rw [hle]; simpa using ha
      obtain ⟨h3, n3, σ3, L3, hrun⟩ := wt_ok q h nx m σ _ 0 hm hq1 (by omega)
      have hw := wF_le q 0
      have hsum := add_nat (a := acc) (b := wF q 0) (by omega)
      obtain ⟨h4, n4, σ4, L4, hrun4⟩ := ih (i + 1) (acc + wF q 0) h3 n3 σ3 (j + 1) (tmL f [(4, .int .i64 ((i + 1 : Nat) : Int)), (3, .int .i64 ((acc + wF q 0 : Nat) : Int)), (12, .bool true)])
        (drop_tail hts) (by omega) L3.mem (hk.mono L3.sle) f0 rfl rfl
      refine ⟨h4, n4, σ4, L3.trans L4, ?_⟩
      refine Ev.round (B := fun n d => R18_10 n (CN n d)) (tm := fun _ _ => .fn f) (K := fun n d => kLeave 0 (kThen (R18_6 n (CN n d)) (E18 n (CN n d)))) ?_
      repeat (first | simp -eta only [SY, ↓reduceIte, Nat.reduceEqDiff, Nat.reduceAdd, f0, f3, f4, hlen, hlt, hla, i1, r_loadB _ _ g1, r1] | simp -eta only [KY, ↓reduceIte, Nat.reduceEqDiff, R18_10_eq])
      refine Ev.call hrun ?_
      repeat (first | simp -eta only [SY, ↓reduceIte, Nat.reduceEqDiff, Nat.reduceAdd, f4, hinc, hsum] | simp -eta only [KY, ↓reduceIte, Nat.reduceEqDiff])
      exact hrun4
    · rw [if_neg ha]
      have hla : nt (ltI 600 (acc : Int)) = false := by rw [hle]; simpa using ha
      refine ⟨h, nx, σ, Later.refl hm, ?_⟩
      refine Ev.round (B := fun n d => R18_10 n (CN n d)) (tm := fun _ _ => .fn f) (K := fun n d => kLeave 0 (kThen (R18_6 n (CN n d)) (E18 n (CN n d)))) ?_
      refine Ev.pure fun n d => ?_
      rw [decide_eq_false ha]
      repeat (first | simp -eta only [SY, ↓reduceIte, Nat.reduceEqDiff, Nat.reduceAdd, f0, f3, f4, hlen, hlt, hla] | simp -eta only [KY, ↓reduceIte, Nat.reduceEqDiff, R18_10_eq, R18_6_eq, E18_ret])
theorem fewAll_ok {B : Nat} (hB : B ≤ 9223372036854775808) {kids : List Tm} {h : Heap} {nx m : Nat} {σ : Sto} {ks : AV} (hm : Mem h nx m σ) (hk : RdKsB B σ kids ks) :
    ∃ h' nx' σ', Later h nx m σ h' nx' σ' ∧ Rn 18 [ks] h nx (.ret (.bool (decide (wA kids 0 ≤ 600))) h' nx') := by
  obtain ⟨h4, n4, σ4, L4, hrun⟩ := fewAll_loop hB kids ks m kids 0 0 h nx σ 0 (tmL (tmL (tmL (tmL tm0 [(0, ks)]) [(2, .bool false)]) [(3, .int .i64 0)]) [(4, .int .i64 0)]) rfl (by omega) hm hk rfl rfl rfl
  refine ⟨h4, n4, σ4, L4, ?_⟩
  refine Rn.of (f := 18) (l := [ks]) (g := fun n d => F18 n (CN n d) ks h nx) (fun n d => F18_eq sp18 n (CN n d) ks h nx) ?_
  unfold F18
  repeat (first | simp -eta only [SY, ↓reduceIte, Nat.reduceEqDiff, Nat.reduceAdd] | simp -eta only [KY, ↓reduceIte, Nat.reduceEqDiff, R18_0_eq, R18_1_eq, R18_2_eq, R18_3_eq, R18_4_eq, R18_5_eq, R18_7_eq, R18_8_eq, R18_9_eq])
  exact Ev.loop (B := fun n d => R18_10 n (CN n d)) (tm := fun _ _ => .fn _) hrun
end Go.Proofs.YtaajedkbaahgfaaGreatDoor

/-
How a module stands in memory.
-/
namespace Go.EV
open Go Go.AE
/-- a row of things, each of so many cells -/
def RowB {α : Type} (B : Nat) (σ : Sto) (sz : Nat) (P : α → List AV → Prop) (xs : List α) (v : AV) : Prop :=
  (xs = [] ∧ v = .nilslice) ∨ ∃ b o cap cs, v = .slice b o xs.length cap sz ∧ σ b = some (.cells cs) ∧ xs.length < B ∧ ∀ i x, xs[i]? = some x → P x ((cs.drop (o + i * sz)).take sz)
theorem RowB.mono {α : Type} {B : Nat} {σ τ : Sto} (h : Sto.le σ τ) {sz : Nat} {P Q : α → List AV → Prop} (hP : ∀ x l, P x l → Q x l) {xs : List α} {v : AV} : RowB B σ sz P xs v → RowB B τ sz Q xs v
  | .inl h => .inl h
  | .inr ⟨b, o, cap, cs, hv, hb, hl, hx⟩ => .inr ⟨b, o, cap, cs, hv, h _ _ hb, hl, fun i x hi => hP x _ (hx i x hi)⟩
def PStr (x : Str) (l : List AV) : Prop := l[0]? = some (.str x.1 x.2)
structure Imp where
  nick : Str
  pkg : Str
structure Con where
  name : Str
  args : List Tm
structure TyD where
  name : Str
  params : List Str
  cons : List Con
structure Als where
  name : Str
  params : List Str
  type : Tm
structure LetD where
  name : Str
  ann : List Tm
  body : Tm
structure Exp where
  name : Str
  ann : List Tm
structure Md where
  imports : List Imp
  types : List TyD
  aliases : List Als
  lets : List LetD
  exports : List Exp
section
variable (B : Nat) (σ : Sto)
def PImp (x : Imp) (l : List AV) : Prop := l[0]? = some (.str x.nick.1 x.nick.2) ∧ l[1]? = some (.str x.pkg.1 x.pkg.2)
def PCon (x : Con) (l : List AV) : Prop := l[0]? = some (.str x.name.1 x.name.2) ∧ ∃ av, l[1]? = some av ∧ RdKsB B σ x.args av
def PTy (x : TyD) (l : List AV) : Prop := l[0]? = some (.str x.name.1 x.name.2) ∧ (∃ pv, l[1]? = some pv ∧ RowB B σ 1 PStr x.params pv) ∧ ∃ cv, l[2]? = some cv ∧ RowB B σ 2 (PCon B σ) x.cons cv
def PAl (x : Als) (l : List AV) : Prop := l[0]? = some (.str x.name.1 x.name.2) ∧ (∃ pv, l[1]? = some pv ∧ RowB B σ 1 PStr x.params pv) ∧ RdTB B σ x.type ((l.drop 2).take 5)
def PLet (x : LetD) (l : List AV) : Prop := l[0]? = some (.str x.name.1 x.name.2) ∧ (∃ av, l[1]? = some av ∧ RdKsB B σ x.ann av) ∧ RdTB B σ x.body ((l.drop 2).take 5)
def PExp (x : Exp) (l : List AV) : Prop := l[1]? = some (.str x.name.1 x.name.2) ∧ ∃ av, l[2]? = some av ∧ RdKsB B σ x.ann av
structure RdMd (M : Md) (l : List AV) : Prop where
  len : l.length = 5
  one : allOne l = true
  imports : ∃ v, l[0]? = some v ∧ RowB B σ 5 PImp M.imports v
  types : ∃ v, l[1]? = some v ∧ RowB B σ 3 (PTy B σ) M.types v
  aliases : ∃ v, l[2]? = some v ∧ RowB B σ 7 (PAl B σ) M.aliases v
  lets : ∃ v, l[3]? = some v ∧ RowB B σ 7 (PLet B σ) M.lets v
  exports : ∃ v, l[4]? = some v ∧ RowB B σ 3 (PExp B σ) M.exports v
end
section
variable {B : Nat} {σ τ : Sto} (h : Sto.le σ τ)
include h
theorem PCon.mono {x : Con} {l : List AV} : PCon B σ x l → PCon B τ x l := fun ⟨a, av, b, c⟩ => ⟨a, av, b, c.mono h⟩
theorem PTy.mono {x : TyD} {l : List AV} : PTy B σ x l → PTy B τ x l := fun ⟨a, ⟨pv, b, c⟩, cv, d, e⟩ => ⟨a, ⟨pv, b, c.mono h fun _ _ h => h⟩, cv, d, e.mono h fun _ _ hc => PCon.mono h hc⟩
theorem PAl.mono {x : Als} {l : List AV} : PAl B σ x l → PAl B τ x l := fun ⟨a, ⟨pv, b, c⟩, d⟩ => ⟨a, ⟨pv, b, c.mono h fun _ _ h => h⟩, d.mono h⟩
theorem PLet.mono {x : LetD} {l : List AV} : PLet B σ x l → PLet B τ x l := fun ⟨a, ⟨pv, b, c⟩, d⟩ => ⟨a, ⟨pv, b, c.mono h⟩, d.mono h⟩
theorem PExp.mono {x : Exp} {l : List AV} : PExp B σ x l → PExp B τ x l := fun ⟨a, pv, b, c⟩ => ⟨a, pv, b, c.mono h⟩
theorem RdMd.mono {M : Md} {l : List AV} (m : RdMd B σ M l) : RdMd B τ M l where
  len := m.len
  one := m.one
  imports := let ⟨v, a, b⟩ := m.imports; ⟨v, a, b.mono h fun _ _ h => h⟩
  types := let ⟨v, a, b⟩ := m.types; ⟨v, a, b.mono h fun _ _ hc => PTy.mono h hc⟩
  aliases := let ⟨v, a, b⟩ := m.aliases; ⟨v, a, b.mono h fun _ _ hc => PAl.mono h hc⟩
  lets := let ⟨v, a, b⟩ := m.lets; ⟨v, a, b.mono h fun _ _ hc => PLet.mono h hc⟩
  exports := let ⟨v, a, b⟩ := m.exports; ⟨v, a, b.mono h fun _ _ hc => PExp.mono h hc⟩
end
theorem RowB.len {α : Type} {B : Nat} {σ : Sto} {sz : Nat} {P : α → List AV → Prop} {xs : List α} {v : AV} (h : RowB B σ sz P xs v) : lenSl v = some (.int .i64 (xs.length : Int)) := by
  rcases h with ⟨rfl, rfl⟩ | ⟨b, o, cap, cs, rfl, _⟩ <;> rfl
/-- an element of a row: where it lies -/
theorem RowB.at {α : Type} {B : Nat} {σ : Sto} {sz : Nat} {P : α → List AV → Prop} {xs : List α} {v : AV} (h : RowB B σ sz P xs v) {i : Nat} {x : α} {ys : List α} (hi : xs.drop i = x :: ys) :
    ∃ b o cs, idx sz v (.int .i64 (i : Int)) = some (.ptr b (o + i * sz)) ∧ σ b = some (.cells cs) ∧ P x ((cs.drop (o + i * sz)).take sz) ∧ i < xs.length ∧ xs.length < B := by
  have hlt : i < xs.length := by
    have := congrArg List.length hi
    simp at this; omega
  have hx : xs[i]? = some x := by
    have := congrArg (·[0]?) hi
    simpa using this
  rcases h with ⟨rfl, rfl⟩ | ⟨b, o, cap, cs, rfl, hb, hl, hP⟩
  · cases hx
  · refine ⟨b, o, cs, ?_, hb, hP i x hx, hlt, hl⟩
    rw [r_idx]
    have e1 : Nat.blt i xs.length = true := by rw [Nat.blt_eq]; exact hlt
    have e2 : Nat.beq sz sz = true := Nat.beq_refl sz
    rw [e1, e2]; rfl
end Go.EV

/-
Inputs: a module and a term, laid.
-/
namespace Go.Proofs.YtaajedkbaahgfaaGreatDoor
open Go Go.AE Go.EV
set_option maxRecDepth 100000
def plainL : List TypeId := [3, 4, 9, 22, 23, 24, 25, 26, 28, 29, 31, 51, 65, 67, 69, 70, 71, 73, 75, 77, 79]
def plainS (t : TypeId) : Bool := plainL.contains t
theorem plain_run : (plainL.all fun t => plainD Tryz.prog plainS t (Tryz.prog.underlying t)) = true := by kernel_rfl
theorem plain_ok : Plain Tryz.prog plainS := fun t ht => List.all_eq_true.1 plain_run t (by simpa [plainS] using ht)
abbrev BB : Nat := 9223372036854775808
section
variable {H : Type} {σ : Sto}
abbrev D (σ : Sto) (fuel : Nat) (t : TypeId) (d : DataW H) (l : List AV) : Prop := DRd Tryz.prog σ fuel t d l
theorem d_int {fuel : Nat} {d : DataW H} {l : List AV} (h : D σ fuel 3 d l) : ∃ z, l = [.int .i64 z] := by
  cases fuel with
  | zero => exact h.elim
  | succ n =>
    unfold D DRd at h
    rw [Tryz.underlying3] at h
    obtain ⟨z, _, rfl⟩ := h
    exact ⟨z, rfl⟩
theorem d_bool {fuel : Nat} {d : DataW H} {l : List AV} (h : D σ fuel 4 d l) : ∃ z, l = [.bool z] := by
  cases fuel with
  | zero => exact h.elim
  | succ n =>
    unfold D DRd at h
    rw [Tryz.underlying4] at h
    obtain ⟨z, _, rfl⟩ := h
    exact ⟨z, rfl⟩
theorem d_str {fuel : Nat} {d : DataW H} {l : List AV} (h : D σ fuel 9 d l) : ∃ s : Str, l = [.str s.1 s.2] := by
  cases fuel with
  | zero => exact h.elim
  | succ n =>
    unfold D DRd at h
    rw [Tryz.underlying9] at h
    obtain ⟨bs, x, _, rfl⟩ := h
    exact ⟨(bs.length, x), rfl⟩
theorem pick {α : Type} {Q : Nat → α → Prop} : ∀ (n : Nat), (∀ i, i < n → ∃ y, Q i y) → ∃ ys : List α, ys.length = n ∧ ∀ i y, ys[i]? = some y → Q i y := by
  intro n
  induction n with
  | zero => intro _; exact ⟨[], rfl, fun i y h => by simp at h⟩
  | succ n ih =>
    intro h
    obtain ⟨ys, hl, hq⟩ := ih fun i hi => h i (by omega)
    obtain ⟨y, hy⟩ := h n (by omega)
    refine ⟨ys ++ [y], by simp [hl], fun i z hz => ?_⟩
    by_cases hi : i < n
    · rw [List.getElem?_append_left (by omega)] at hz; exact hq i z hz
    · rw [List.getElem?_append_right (by omega), hl] at hz
      have : i = n := by
        have := (List.getElem?_eq_some_iff.1 hz).1
        simp at this; omega
      subst this
      simp at hz; subst hz; exact hy
theorem d_slice {α : Type} {el t : TypeId} (hu : Tryz.prog.underlying t = some (.slice el)) {Q : α → List AV → Prop} {fuel : Nat} (hq : ∀ m (x : DataW H) l, m < fuel → D σ m el x l → ∃ y, Q y l) {d : DataW H} {l : List AV} (h : D σ fuel t d l) :
    ∃ ys v, l = [v] ∧ RowB BB σ (Tryz.prog.cellsOf el) Q ys v := by
  cases fuel with
  | zero => exact h.elim
  | succ n =>
    unfold D DRd at h
    rw [hu] at h
    rcases h with ⟨_, rfl⟩ | ⟨elems, spare, b, o, cap, cs, _, rfl, hb, hlt, hel⟩
    · exact ⟨[], _, rfl, .inl ⟨rfl, rfl⟩⟩
    · obtain ⟨ys, hl, hy⟩ := pick (Q := fun i y => Q y ((cs.drop (o + i * Tryz.prog.cellsOf el)).take (Tryz.prog.cellsOf el))) elems.length (fun i hi => hq n _ _ (Nat.lt_succ_self n) (hel i elems[i] (List.getElem?_eq_getElem hi)))
      exact ⟨ys, _, rfl, .inr ⟨b, o, cap, cs, by rw [hl], hb, by rw [hl]; exact hlt, hy⟩⟩
theorem d_struct {t : TypeId} {fs : Array Field} (hu : Tryz.prog.underlying t = some (.struct fs)) {fuel : Nat} {d : DataW H} {l : List AV} (h : D σ fuel t d l) :
    l.length = Tryz.prog.cellsOf t ∧ ∀ (i ty off : Nat), (fs[i]?).map (fun f => (f.type, f.offset)) = some (ty, off) → ∃ m x, m < fuel ∧ D (H := H) σ m ty x ((l.drop off).take (Tryz.prog.cellsOf ty)) := by
  cases fuel with
  | zero => exact h.elim
  | succ n =>
    unfold D DRd at h
    rw [hu] at h
    obtain ⟨parts, _, hl, hp, hx⟩ := h
    refine ⟨hl, fun i ty off hf => ?_⟩
    rw [Option.map_eq_some_iff] at hf
    obtain ⟨f, hf, he⟩ := hf
    injection he with he1 he2
    subst he1 he2
    have hi : i < parts.length := by
      have := (Array.getElem?_eq_some_iff.1 hf).1
      omega
    exact ⟨n, _, Nat.lt_succ_self n, hx i f parts[i] hf (List.getElem?_eq_getElem hi)⟩
theorem rdsb_of {kids : List Tm} {cs : List AV} : ∀ (ks : List Tm) (o : Nat), (∀ i t, ks[i]? = some t → RdTB BB σ t ((cs.drop (o + i * 5)).take 5)) → RdSB BB σ ks cs o := by
  intro ks
  induction ks with
  | nil => intro o _; exact .nil _ _
  | cons t ks ih =>
    intro o h
    refine .cons t ks cs o (by simpa using h 0 t rfl) (ih (o + 5) fun i q hq => ?_)
    have := h (i + 1) q (by simpa using hq)
    rwa [show o + (i + 1) * 5 = o + 5 + i * 5 by omega] at this
theorem rdks_of {kids : List Tm} {v : AV} (h : RowB BB σ 5 (RdTB BB σ) kids v) : RdKsB BB σ kids v := by
  rcases h with ⟨rfl, rfl⟩ | ⟨b, o, cap, cs, rfl, hb, hl, hx⟩
  · exact .nil
  · exact .row kids b o cap cs hb hl (rdsb_of (kids := kids) kids o hx)
theorem cells31 : Tryz.prog.cellsOf 31 = 5 := by kernel_rfl
theorem cells3 : Tryz.prog.cellsOf 3 = 1 := by kernel_rfl
theorem cells9 : Tryz.prog.cellsOf 9 = 1 := by kernel_rfl
theorem cells29 : Tryz.prog.cellsOf 29 = 1 := by kernel_rfl
theorem cells70 : Tryz.prog.cellsOf 70 = 1 := by kernel_rfl
theorem cells71 : Tryz.prog.cellsOf 71 = 1 := by kernel_rfl
theorem d_term : ∀ (fuel : Nat) (d : DataW H) (l : List AV), D σ fuel 31 d l → ∃ t, RdTB BB σ t l := by
  intro fuel
  induction fuel using Nat.strongRecOn with
  | _ fuel ih =>
    intro d l h
    obtain ⟨hl, hf⟩ := d_struct Tryz.underlying31 h
    rw [cells31] at hl
    obtain ⟨m0, x0, _, h0⟩ := hf 0 3 0 rfl
    obtain ⟨m1, x1, _, h1⟩ := hf 1 9 1 rfl
    obtain ⟨m2, x2, _, h2⟩ := hf 2 9 2 rfl
    obtain ⟨m3, x3, _, h3⟩ := hf 3 3 3 rfl
    obtain ⟨m4, x4, hm4, h4⟩ := hf 4 29 4 rfl
    match l, hl with
    | [a, b, c, e, k], _ =>
      obtain ⟨z0, e0⟩ := d_int h0
      obtain ⟨s1, e1⟩ := d_str h1
      obtain ⟨s2, e2⟩ := d_str h2
      obtain ⟨z3, e3⟩ := d_int h3
      obtain ⟨ys, v, e4, hrow⟩ := d_slice (Q := RdTB BB σ) Tryz.underlying29 (fun m x l hm hx => ih m (by omega) x l hx) h4
      simp only [cells3, cells9, cells29] at e0 e1 e2 e3 e4
      simp at e0 e1 e2 e3 e4
      subst e0 e1 e2 e3 e4
      rw [cells31] at hrow
      exact ⟨.mk z0 s1 s2 z3 ys, .mk z0 s1 s2 z3 ys k (rdks_of hrow)⟩
theorem d_terms {fuel : Nat} {d : DataW H} {l : List AV} (h : D σ fuel 29 d l) : ∃ ts v, l = [v] ∧ RdKsB BB σ ts v := by
  obtain ⟨ys, v, e, hrow⟩ := d_slice (Q := RdTB BB σ) Tryz.underlying29 (fun m x l _ hx => d_term m x l hx) h
  rw [cells31] at hrow
  exact ⟨ys, v, e, rdks_of hrow⟩
theorem d_strs {fuel : Nat} {d : DataW H} {l : List AV} (h : D σ fuel 70 d l) : ∃ ss v, l = [v] ∧ RowB BB σ 1 PStr ss v := by
  obtain ⟨ys, v, e, hrow⟩ := d_slice (Q := PStr) Tryz.underlying70 (fun m x l _ hx => by obtain ⟨s, rfl⟩ := d_str hx; exact ⟨s, rfl⟩) h
  rw [cells9] at hrow
  exact ⟨ys, v, e, hrow⟩
theorem cells75 : Tryz.prog.cellsOf 75 = 2 := by kernel_rfl
theorem cells73 : Tryz.prog.cellsOf 73 = 3 := by kernel_rfl
theorem cells77 : Tryz.prog.cellsOf 77 = 7 := by kernel_rfl
theorem cells51 : Tryz.prog.cellsOf 51 = 7 := by kernel_rfl
theorem cells79 : Tryz.prog.cellsOf 79 = 3 := by kernel_rfl
theorem cells69 : Tryz.prog.cellsOf 69 = 5 := by kernel_rfl
theorem cells67 : Tryz.prog.cellsOf 67 = 4 := by kernel_rfl
theorem cells28 : Tryz.prog.cellsOf 28 = 5 := by kernel_rfl
theorem cells22 : Tryz.prog.cellsOf 22 = 1 := by kernel_rfl
theorem cells23 : Tryz.prog.cellsOf 23 = 1 := by kernel_rfl
theorem cells24 : Tryz.prog.cellsOf 24 = 1 := by kernel_rfl
theorem cells25 : Tryz.prog.cellsOf 25 = 1 := by kernel_rfl
theorem cells26 : Tryz.prog.cellsOf 26 = 1 := by kernel_rfl
theorem d_con {fuel : Nat} {d : DataW H} {l : List AV} (h : D σ fuel 75 d l) : ∃ x, PCon BB σ x l := by
  obtain ⟨hl, hf⟩ := d_struct Tryz.underlying75 h
  rw [cells75] at hl
  obtain ⟨_, _, _, h0⟩ := hf 0 9 0 rfl
  obtain ⟨_, _, _, h1⟩ := hf 1 29 1 rfl
  match l, hl with
  | [a, b], _ =>
    obtain ⟨s, e0⟩ := d_str h0
    obtain ⟨ts, v, e1, hv⟩ := d_terms h1
    simp only [cells9, cells29] at e0 e1
    simp at e0 e1
    subst e0 e1
    exact ⟨⟨s, ts⟩, rfl, _, rfl, hv⟩
theorem d_ty {fuel : Nat} {d : DataW H} {l : List AV} (h : D σ fuel 73 d l) : ∃ x, PTy BB σ x l := by
  obtain ⟨hl, hf⟩ := d_struct Tryz.underlying73 h
  rw [cells73] at hl
  obtain ⟨_, _, _, h0⟩ := hf 0 9 0 rfl
  obtain ⟨_, _, _, h1⟩ := hf 1 70 1 rfl
  obtain ⟨_, _, _, h2⟩ := hf 2 71 2 rfl
  match l, hl with
  | [a, b, c], _ =>
    obtain ⟨s, e0⟩ := d_str h0
    obtain ⟨ss, v, e1, hv⟩ := d_strs h1
    obtain ⟨ys, u, e2, hu⟩ := d_slice (Q := PCon BB σ) Tryz.underlying71 (fun m x l _ hx => d_con hx) h2
    rw [cells75] at hu
    simp only [cells9, cells70, cells71] at e0 e1 e2
    simp at e0 e1 e2
    subst e0 e1 e2
    exact ⟨⟨s, ss, ys⟩, rfl, ⟨_, rfl, hv⟩, _, rfl, hu⟩
theorem d_al {fuel : Nat} {d : DataW H} {l : List AV} (h : D σ fuel 77 d l) : ∃ x, PAl BB σ x l := by
  obtain ⟨hl, hf⟩ := d_struct Tryz.underlying77 h
  rw [cells77] at hl
  obtain ⟨_, _, _, h0⟩ := hf 0 9 0 rfl
  obtain ⟨_, _, _, h1⟩ := hf 1 70 1 rfl
  obtain ⟨_, _, _, h2⟩ := hf 2 31 2 rfl
  obtain ⟨t, ht⟩ := d_term _ _ _ h2
  match l, hl with
  | a :: b :: r, _ =>
    obtain ⟨s, e0⟩ := d_str h0
    obtain ⟨ss, v, e1, hv⟩ := d_strs h1
    simp only [cells9, cells70] at e0 e1
    simp at e0 e1
    subst e0 e1
    simp only [cells31] at ht
    exact ⟨⟨s, ss, t⟩, rfl, ⟨_, rfl, hv⟩, ht⟩
theorem d_let {fuel : Nat} {d : DataW H} {l : List AV} (h : D σ fuel 51 d l) : ∃ x, PLet BB σ x l := by
  obtain ⟨hl, hf⟩ := d_struct Tryz.underlying51 h
  rw [cells51] at hl
  obtain ⟨_, _, _, h0⟩ := hf 0 9 0 rfl
  obtain ⟨_, _, _, h1⟩ := hf 1 29 1 rfl
  obtain ⟨_, _, _, h2⟩ := hf 2 31 2 rfl
  obtain ⟨t, ht⟩ := d_term _ _ _ h2
  match l, hl with
  | a :: b :: r, _ =>
    obtain ⟨s, e0⟩ := d_str h0
    obtain ⟨ss, v, e1, hv⟩ := d_terms h1
    simp only [cells9, cells29] at e0 e1
    simp at e0 e1
    subst e0 e1
    simp only [cells31] at ht
    exact ⟨⟨s, ss, t⟩, rfl, ⟨_, rfl, hv⟩, ht⟩
theorem d_exp {fuel : Nat} {d : DataW H} {l : List AV} (h : D σ fuel 79 d l) : ∃ x, PExp BB σ x l := by
  obtain ⟨hl, hf⟩ := d_struct Tryz.underlying79 h
  rw [cells79] at hl
  obtain ⟨_, _, _, h1⟩ := hf 1 9 1 rfl
  obtain ⟨_, _, _, h2⟩ := hf 2 29 2 rfl
  match l, hl with
  | [a, b, c], _ =>
    obtain ⟨s, e0⟩ := d_str h1
    obtain ⟨ss, v, e1, hv⟩ := d_terms h2
    simp only [cells9, cells29] at e0 e1
    simp at e0 e1
    subst e0 e1
    exact ⟨⟨s, ss⟩, rfl, _, rfl, hv⟩
theorem d_imp {fuel : Nat} {d : DataW H} {l : List AV} (h : D σ fuel 69 d l) : ∃ x, PImp x l := by
  obtain ⟨hl, hf⟩ := d_struct Tryz.underlying69 h
  rw [cells69] at hl
  obtain ⟨_, _, _, h0⟩ := hf 0 9 0 rfl
  obtain ⟨_, _, _, h1⟩ := hf 1 67 1 rfl
  obtain ⟨_, hg⟩ := d_struct Tryz.underlying67 h1
  obtain ⟨_, _, _, h2⟩ := hg 0 9 0 rfl
  match l, hl with
  | [a, b, c, d, e], _ =>
    obtain ⟨s, e0⟩ := d_str h0
    obtain ⟨s', e1⟩ := d_str h2
    simp only [cells9, cells67] at e0 e1
    simp at e0 e1
    subst e0 e1
    exact ⟨⟨s, s'⟩, rfl, rfl⟩
theorem row_cell {α : Type} {sz : Nat} {Q : α → List AV → Prop} {xs : List α} {v : AV} (h : RowB BB σ sz Q xs v) : oneCell v = true := by
  rcases h with ⟨_, rfl⟩ | ⟨_, _, _, _, rfl, _⟩ <;> rfl
theorem d_mod {fuel : Nat} {d : DataW H} {l : List AV} (h : D σ fuel 28 d l) : ∃ M, RdMd BB σ M l := by
  obtain ⟨hl, hf⟩ := d_struct Tryz.underlying28 h
  rw [cells28] at hl
  obtain ⟨_, _, _, h0⟩ := hf 0 22 0 rfl
  obtain ⟨_, _, _, h1⟩ := hf 1 23 1 rfl
  obtain ⟨_, _, _, h2⟩ := hf 2 24 2 rfl
  obtain ⟨_, _, _, h3⟩ := hf 3 25 3 rfl
  obtain ⟨_, _, _, h4⟩ := hf 4 26 4 rfl
  match l, hl with
  | [a, b, c, d, e], _ =>
    obtain ⟨y0, v0, e0, r0⟩ := d_slice (Q := PImp) Tryz.underlying22 (fun m x l _ hx => d_imp hx) h0
    obtain ⟨y1, v1, e1, r1⟩ := d_slice (Q := PTy BB σ) Tryz.underlying23 (fun m x l _ hx => d_ty hx) h1
    obtain ⟨y2, v2, e2, r2⟩ := d_slice (Q := PAl BB σ) Tryz.underlying24 (fun m x l _ hx => d_al hx) h2
    obtain ⟨y3, v3, e3, r3⟩ := d_slice (Q := PLet BB σ) Tryz.underlying25 (fun m x l _ hx => d_let hx) h3
    obtain ⟨y4, v4, e4, r4⟩ := d_slice (Q := PExp BB σ) Tryz.underlying26 (fun m x l _ hx => d_exp hx) h4
    simp only [cells22, cells23, cells24, cells25, cells26] at e0 e1 e2 e3 e4
    simp at e0 e1 e2 e3 e4
    subst e0 e1 e2 e3 e4
    rw [cells69] at r0
    rw [cells73] at r1
    rw [cells77] at r2
    rw [cells51] at r3
    rw [cells79] at r4
    refine ⟨⟨y0, y1, y2, y3, y4⟩, rfl, ?_, ⟨_, rfl, r0⟩, ⟨_, rfl, r1⟩, ⟨_, rfl, r2⟩, ⟨_, rfl, r3⟩, ⟨_, rfl, r4⟩⟩
    show andB (oneCell a) (andB (oneCell b) (andB (oneCell c) (andB (oneCell d) (andB (oneCell e) true)))) = true
    rw [row_cell r0, row_cell r1, row_cell r2, row_cell r3, row_cell r4]
end
end Go.Proofs.YtaajedkbaahgfaaGreatDoor
