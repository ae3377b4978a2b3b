/-
Texts of the proof, joined: R7, R14, Ev10, R16, Ev11, Ev12, Ev13, R9, Ev14.
-/
import Derived.Test.YtaajedkbaahgfaaGreatDoorA8
import Derived.Test.YtaajedkbaahgfaaGreatDoorProg
set_option linter.unusedSimpArgs false
set_option linter.unusedVariables false
set_option linter.unusedSectionVars false
/-
Residual of function 7
-/
namespace Go.Proofs.YtaajedkbaahgfaaGreatDoor
open Go Go.AE
set_option maxRecDepth 100000
/-! touchstone/eval.Eval -/
noncomputable def C7 : Code := Tryz.f7.body.getD .skip
noncomputable def E7 (n : Nat) (call : CallF) : KX CRes := kEnd Tryz.prog true locOfF n call (mapL (rsVar Tryz.prog 7) Tryz.f7.results.toList)
noncomputable def R7_0 (n : Nat) (call : CallF) : TM → Defs → Heap → Nat → KX CRes → Option CRes := kCode (β := CRes) Tryz.prog 69 7 590295775172453433344 C7 n call
noncomputable def R7_1 (n : Nat) (call : CallF) : TM → Defs → Heap → Nat → KX CRes → Option CRes := kCode (β := CRes) Tryz.prog 69 7 590295775172453433344 (cL C7) n call
noncomputable def R7_2 (n : Nat) (call : CallF) : TM → Defs → Heap → Nat → KX CRes → Option CRes := kCode (β := CRes) Tryz.prog 69 7 590295775172453433344 (cR C7) n call
noncomputable def R7_3 (n : Nat) (call : CallF) : TM → Defs → Heap → Nat → KX CRes → Option CRes := kCode (β := CRes) Tryz.prog 69 7 590295775172453433344 (cL (cR C7)) n call
noncomputable def R7_4 (n : Nat) (call : CallF) : TM → Defs → Heap → Nat → KX CRes → Option CRes := kCode (β := CRes) Tryz.prog 69 7 590295775172453433344 (cR (cR C7)) n call
noncomputable def R7_5 (n : Nat) (call : CallF) : TM → Defs → Heap → Nat → KX CRes → Option CRes := kCode (β := CRes) Tryz.prog 69 7 590295775172453433344 (cL (cR (cR C7))) n call
noncomputable def R7_6 (n : Nat) (call : CallF) : TM → Defs → Heap → Nat → KX CRes → Option CRes := kCode (β := CRes) Tryz.prog 69 7 590295775172453433344 (cR (cR (cR C7))) n call
noncomputable def R7_7 (n : Nat) (call : CallF) : TM → Defs → Heap → Nat → KX CRes → Option CRes := kCode (β := CRes) Tryz.prog 69 7 590295775172453433344 (cL (cR (cR (cR C7)))) n call
noncomputable def R7_8 (n : Nat) (call : CallF) : TM → Defs → Heap → Nat → KX CRes → Option CRes := kCode (β := CRes) Tryz.prog 69 7 590295775172453433344 (cR (cR (cR (cR C7)))) n call
noncomputable def R7_9 (n : Nat) (call : CallF) : TM → Defs → Heap → Nat → KX CRes → Option CRes := kCode (β := CRes) Tryz.prog 69 7 590295775172453433344 (cL (cL (cR (cR (cR C7))))) n call
noncomputable def R7_10 (n : Nat) (call : CallF) : TM → Defs → Heap → Nat → KX CRes → Option CRes := kCode (β := CRes) Tryz.prog 69 7 590295775172453433344 (cR (cL (cR (cR (cR C7))))) n call
noncomputable def R7_11 (n : Nat) (call : CallF) : TM → Defs → Heap → Nat → KX CRes → Option CRes := kCode (β := CRes) Tryz.prog 69 7 590295775172453433344 (cL (cR (cL (cR (cR (cR C7)))))) n call
noncomputable def R7_12 (n : Nat) (call : CallF) : TM → Defs → Heap → Nat → KX CRes → Option CRes := kCode (β := CRes) Tryz.prog 69 7 590295775172453433344 (cL (cL (cR (cL (cR (cR (cR C7))))))) n call
noncomputable def R7_13 (n : Nat) (call : CallF) : TM → Defs → Heap → Nat → KX CRes → Option CRes := kCode (β := CRes) Tryz.prog 69 7 590295775172453433344 (cL (cL (cL (cR (cL (cR (cR (cR C7)))))))) n call
noncomputable def R7_14 (n : Nat) (call : CallF) : TM → Defs → Heap → Nat → KX CRes → Option CRes := kCode (β := CRes) Tryz.prog 69 7 590295775172453433344 (cR (cL (cL (cR (cL (cR (cR (cR C7)))))))) n call
noncomputable def R7_15 (n : Nat) (call : CallF) : TM → Defs → Heap → Nat → KX CRes → Option CRes := kCode (β := CRes) Tryz.prog 69 7 590295775172453433344 (cL (cR (cL (cL (cR (cL (cR (cR (cR C7))))))))) n call
noncomputable def R7_16 (n : Nat) (call : CallF) : TM → Defs → Heap → Nat → KX CRes → Option CRes := kCode (β := CRes) Tryz.prog 69 7 590295775172453433344 (cR (cR (cL (cL (cR (cL (cR (cR (cR C7))))))))) n call
noncomputable def R7_17 (n : Nat) (call : CallF) : TM → Defs → Heap → Nat → KX CRes → Option CRes := kCode (β := CRes) Tryz.prog 69 7 590295775172453433344 (cL (cR (cR (cL (cL (cR (cL (cR (cR (cR C7)))))))))) n call
noncomputable def R7_18 (n : Nat) (call : CallF) : TM → Defs → Heap → Nat → KX CRes → Option CRes := kCode (β := CRes) Tryz.prog 69 7 590295775172453433344 (cR (cR (cR (cL (cL (cR (cL (cR (cR (cR C7)))))))))) n call
noncomputable def F7 (n : Nat) (call : CallF) (a0 : AV) (a1 : AV) (z2 : Int) (h : Heap) (nx : Nat) : Option CRes :=
  R7_0 n call (.fn (tmL tm0 [(2, (.int .i64 z2)), (1, a1), (0, a0)])) [] h nx (E7 n call)
theorem F7_eq {sp : Specs} (hsp : sp 7 = none) (n : Nat) (call : CallF) (a0 : AV) (a1 : AV) (z2 : Int) (h : Heap) (nx : Nat) : callS Tryz.prog true sp locOfF n call 7 [a0, a1, (.int .i64 z2)] h nx = F7 n call a0 a1 z2 h nx :=
  (call_eq2 Tryz.func7 (c := C7) (N := 69) (dp := 7) (L := 590295775172453433344) (tm := (.fn (tmL tm0 [(2, (.int .i64 z2)), (1, a1), (0, a0)]))) (by kernel_rfl) (by kernel_rfl) (by kernel_rfl) (by kernel_rfl) (by kernel_rfl) (by kernel_rfl) hsp n call h nx).trans (by kernel_rfl)
theorem R7_0_eq (n : Nat) (call : CallF) (f : Nat → Option AV) (df : Defs) (h : Heap) (nx : Nat) (K : KX CRes) : R7_0 n call (.fn f) df h nx K =
  R7_1 n call (.fn f) df h nx (kThen (R7_2 n call) K) :=
  (congrArg (fun c => kCode (β := CRes) Tryz.prog 69 7 590295775172453433344 c n call (.fn f) df h nx K) (show C7 = (.seq (cL C7) (cR C7)) by kernel_rfl)).trans (kCode_seq ..)
theorem R7_1_eq (n : Nat) (call : CallF) (f : Nat → Option AV) (df : Defs) (h : Heap) (nx : Nat) (K : KX CRes) : R7_1 n call (.fn f) df h nx K =
  bd (bd (f 0) fun v1 => (boxR nx v1)) fun r2 =>
  letH (hset h nx r2.2) (Nat.succ nx) fun h3 n4 =>
  bd (bd (f 1) fun v5 => (boxR n4 v5)) fun r6 =>
  letH (hset h3 n4 r6.2) (Nat.succ n4) fun h7 n8 =>
  letH (hset h7 n8 (.cells [(.int .i64 0), (.str 0 0), (.str 0 0), (.int .i64 0), .nilslice])) (Nat.succ n8) fun h9 n10 =>
  letH (hset h9 n10 (.cells [(.int .i64 0)])) (Nat.succ n10) fun h11 n12 =>
  letH (hset h11 n12 (.cells [(.int .i64 0)])) (Nat.succ n12) fun h13 n14 =>
  K h13 n14 .normal (.fn (tmL f [(8, (.ptr n12 0)), (7, (.ptr n10 0)), (6, (.ptr n8 0)), (4, r6.1), (3, r2.1)])) df := by kernel_rfl
theorem R7_2_eq (n : Nat) (call : CallF) (f : Nat → Option AV) (df : Defs) (h : Heap) (nx : Nat) (K : KX CRes) : R7_2 n call (.fn f) df h nx K =
  R7_3 n call (.fn f) df h nx (kThen (R7_4 n call) K) :=
  (congrArg (fun c => kCode (β := CRes) Tryz.prog 69 7 590295775172453433344 c n call (.fn f) df h nx K) (show (cR C7) = (.seq (cL (cR C7)) (cR (cR C7))) by kernel_rfl)).trans (kCode_seq ..)
theorem R7_3_eq (n : Nat) (call : CallF) (f : Nat → Option AV) (df : Defs) (h : Heap) (nx : Nat) (K : KX CRes) : R7_3 n call (.fn f) df h nx K =
  bd (f 2) fun v15 =>
  bd (binV .lss (eqT Tryz.prog 8 3) true (!(Tryz.prog.eqGuardType Tryz.prog.depth 3)) (.int .i64 1) v15) fun v16 =>
  bd (wantV false v16) fun b17 => bd (sl b17 ((f 2)) (some (.tuple []))) fun v18 =>
  bd (wantV false v16) fun b19 => bd (sl b19 ((binV .gtr (eqT Tryz.prog 8 3) true (!(Tryz.prog.eqGuardType Tryz.prog.depth 3)) (.int .i64 20000) v18)) (some (.tuple []))) fun v20 =>
  bd (pickV v16 (.bool true) v20) fun v21 =>
  onBool v21 fun b22 => sl b22
  (bd (bd (f 6) fun v23 => (stR 5 h nx v23 (.agg [(.int .i64 0), (.str 0 0), (.str 0 0), (.int .i64 0), .nilslice]))) (ares (fun v24 h25 n26 =>
  bd (bd (f 7) fun v27 => (stR 1 h25 n26 v27 (.int .i64 0))) (ares (fun v28 h29 n30 =>
  bd (bd (f 8) fun v31 => (stR 1 h29 n30 v31 (.int .i64 2))) (ares (fun v32 h33 n34 =>
  K h33 n34 .ret (.fn (tmL f [(20, v21)])) df) (fun v35 h36 n37 => K h36 n37 (.pan v35) (.fn (tmL f [(20, v21)])) df))) (fun v38 h39 n40 => K h39 n40 (.pan v38) (.fn (tmL f [(20, v21)])) df))) (fun v41 h42 n43 => K h42 n43 (.pan v41) (.fn (tmL f [(20, v21)])) df)))
  (K h nx .normal (.fn (tmL f [(20, v21)])) df) := by kernel_rfl
theorem R7_4_eq (n : Nat) (call : CallF) (f : Nat → Option AV) (df : Defs) (h : Heap) (nx : Nat) (K : KX CRes) : R7_4 n call (.fn f) df h nx K =
  R7_5 n call (.fn f) df h nx (kThen (R7_6 n call) K) :=
  (congrArg (fun c => kCode (β := CRes) Tryz.prog 69 7 590295775172453433344 c n call (.fn f) df h nx K) (show (cR (cR C7)) = (.seq (cL (cR (cR C7))) (cR (cR (cR C7)))) by kernel_rfl)).trans (kCode_seq ..)
theorem R7_5_eq (n : Nat) (call : CallF) (f : Nat → Option AV) (df : Defs) (h : Heap) (nx : Nat) (K : KX CRes) : R7_5 n call (.fn f) df h nx K =
  letH (hset h nx (.map [] 0)) (Nat.succ nx) fun h44 n45 =>
  bd (f 2) fun v46 =>
  bd (bld [.nilmap, (.int .i64 0), (.int .i64 0)] [(0, 1, (.map nx)), (2, 1, v46)]) fun v47 =>
  bd (boxR n45 v47) fun r48 =>
  letH (hset h44 n45 r48.2) (Nat.succ n45) fun h49 n50 =>
  letH (hset h49 n50 (.cells [.nilptr])) (Nat.succ n50) fun h51 n52 =>
  bd (stR 1 h51 n52 (.ptr n50 0) r48.1) (ares (fun v53 h54 n55 =>
  K h54 n55 .normal (.fn (tmL f [(9, (.ptr n50 0))])) df) (fun v56 h57 n58 => K h57 n58 (.pan v56) (.fn (tmL f [(9, (.ptr n50 0))])) df)) := by kernel_rfl
theorem R7_6_eq (n : Nat) (call : CallF) (f : Nat → Option AV) (df : Defs) (h : Heap) (nx : Nat) (K : KX CRes) : R7_6 n call (.fn f) df h nx K =
  R7_7 n call (.fn f) df h nx (kThen (R7_8 n call) K) :=
  (congrArg (fun c => kCode (β := CRes) Tryz.prog 69 7 590295775172453433344 c n call (.fn f) df h nx K) (show (cR (cR (cR C7))) = (.seq (cL (cR (cR (cR C7)))) (cR (cR (cR (cR C7))))) by kernel_rfl)).trans (kCode_seq ..)
theorem R7_7_eq (n : Nat) (call : CallF) (f : Nat → Option AV) (df : Defs) (h : Heap) (nx : Nat) (K : KX CRes) : R7_7 n call (.fn f) df h nx K =
  R7_9 n call (.fn f) df h nx (kThen (R7_10 n call) K) :=
  (congrArg (fun c => kCode (β := CRes) Tryz.prog 69 7 590295775172453433344 c n call (.fn f) df h nx K) (show (cL (cR (cR (cR C7)))) = (.seq (cL (cL (cR (cR (cR C7))))) (cR (cL (cR (cR (cR C7)))))) by kernel_rfl)).trans (kCode_seq ..)
theorem R7_8_eq (n : Nat) (call : CallF) (f : Nat → Option AV) (df : Defs) (h : Heap) (nx : Nat) (K : KX CRes) : R7_8 n call (.fn f) df h nx K =
  bd (bd (evU []) fun l59 => bd (evU [(f 9), (f 6), (f 7), (f 8)]) fun l60 => some (.func 14 l59 l60)) fun v61 =>
  onFunc v61 fun g63 l64 l65 =>
  letH (hset h nx (.cells [(.int .i64 0)])) (Nat.succ nx) fun h66 n67 =>
  bd (bd (putCells h66 nx 0 1 [(.int .i64 20000)]) (skipR n67)) (ares (fun v68 h69 n70 =>
  bd (bd (f 9) fun v71 => (ld1 h69 v71)) fun v72 =>
  bd (clU call 15 [(some v72), (f 4), (some .nilptr)] h69 n70) (ares (fun v73 h74 n75 =>
  letH (hset h74 n75 (.cells [(.int .i64 0), (.str 0 0), (.str 0 0), (.int .i64 0), .nilslice, .nilptr, .nilptr])) (Nat.succ n75) fun h76 n77 =>
  bd (stR 7 h76 n77 (.ptr n75 0) v73) (ares (fun v78 h79 n80 =>
  bd (bd (f 9) fun v81 => (ld1 h79 v81)) fun v82 =>
  bd (loadB (pkAgg 7) h79 n75 0) fun v83 =>
  bd (clR call 16 [v82, v83, (.ptr nx 0)] h79 n80) (ares (fun v84 h85 n86 =>
  letH (hset h85 n86 (.cells [(.int .i64 0), (.str 0 0), (.str 0 0), (.int .i64 0), .nilslice])) (Nat.succ n86) fun h87 n88 =>
  bd (stR 5 h87 n88 (.ptr n86 0) v84) (ares (fun v89 h90 n91 =>
  bd (bd ((loadB (pkAgg 5) h90 n86 0)) fun v92 => some v92) fun v93 =>
  bd (bd (f 6) fun v94 => (stR 5 h90 (n91 + 8) v94 v93)) (ares (fun v95 h96 n97 =>
  bd (bd ((bd (f 9) fun v98 => (ld1 h96 v98))) fun v99 => gd (an (bb (bd (f 9) fun v100 => (ld1 h90 v100)) fun u101 => beqV v99 u101) true) (some v99)) fun v102 =>
  bd (bd ((rNilV v102)) fun v103 => some v103) fun v104 =>
  bd (bd ((adr 1 v104)) fun v105 => some v105) fun v106 =>
  bd (bd ((ld1 h96 v106)) fun v107 => gd (an (bb (ld1 h90 v106) fun u108 => beqV v107 u108) true) (some v107)) fun v109 =>
  bd (bd (f 7) fun v110 => (stR 1 h96 n97 v110 v109)) (ares (fun v111 h112 n113 =>
  bd (bd (f 8) fun v114 => (stR 1 h112 n113 v114 (.int .i64 0))) (ares (fun v115 h116 n117 =>
  K h116 n117 .ret (.fn (tmL f [(14, (.ptr n86 0)), (13, (.ptr n75 0)), (12, (.ptr nx 0))])) ((g63, lapp l64 (lapp [] l65)) :: df)) (fun v118 h119 n120 => K h119 n120 (.pan v118) (.tr .nil) ((g63, lapp l64 (lapp [] l65)) :: df)))) (fun v121 h122 n123 => K h122 n123 (.pan v121) (.tr .nil) ((g63, lapp l64 (lapp [] l65)) :: df)))) (fun v124 h125 n126 => bd (bd ((bd (f 9) fun v127 => (ld1 h90 v127))) fun v128 => some v128) fun v129 =>
  bd (bd ((rNilV v129)) fun v130 => some v130) fun v131 =>
  bd (bd ((adr 1 v131)) fun v132 => some v132) fun v133 =>
  bd (bd ((ld1 h90 v133)) fun v134 => some v134) fun v135 =>
  K h125 n126 (.pan v124) (.tr .nil) ((g63, lapp l64 (lapp [] l65)) :: df)))) (fun v136 h137 n138 => K h137 n138 (.pan v136) (.fn (tmL f [(14, (.ptr n86 0)), (13, (.ptr n75 0)), (12, (.ptr nx 0))])) ((g63, lapp l64 (lapp [] l65)) :: df)))) (fun v139 h140 n141 => K h140 n141 (.pan v139) (.fn (tmL f [(13, (.ptr n75 0)), (12, (.ptr nx 0))])) ((g63, lapp l64 (lapp [] l65)) :: df)))) (fun v142 h143 n144 => K h143 n144 (.pan v142) (.fn (tmL f [(13, (.ptr n75 0)), (12, (.ptr nx 0))])) ((g63, lapp l64 (lapp [] l65)) :: df)))) (fun v145 h146 n147 => K h146 n147 (.pan v145) (.fn (tmL f [(12, (.ptr nx 0))])) ((g63, lapp l64 (lapp [] l65)) :: df)))) (fun v148 h149 n150 => K h149 n150 (.pan v148) (.fn (tmL f [(12, (.ptr nx 0))])) ((g63, lapp l64 (lapp [] l65)) :: df))) := by kernel_rfl
theorem R7_9_eq (n : Nat) (call : CallF) (f : Nat → Option AV) (df : Defs) (h : Heap) (nx : Nat) (K : KX CRes) : R7_9 n call (.fn f) df h nx K =
  bd (bd (f 3) fun v151 => (adr 3 v151)) fun v152 =>
  bd (ld1 h v152) fun v153 =>
  bd (lenSl v153) fun v154 =>
  K h nx .normal (.fn (tmL f [(29, (.int .i64 0)), (28, v154)])) df := by kernel_rfl
theorem R7_10_eq (n : Nat) (call : CallF) (f : Nat → Option AV) (df : Defs) (h : Heap) (nx : Nat) (K : KX CRes) : R7_10 n call (.fn f) df h nx K =
  R7_11 n call (.fn f) df h nx (kLeave 0 K) :=
  (congrArg (fun c => kCode (β := CRes) Tryz.prog 69 7 590295775172453433344 c n call (.fn f) df h nx K) (show (cR (cL (cR (cR (cR C7))))) = (.block 0 (cL (cR (cL (cR (cR (cR C7))))))) by kernel_rfl)).trans (kCode_block ..)
theorem R7_11_eq (n : Nat) (call : CallF) (f : Nat → Option AV) (df : Defs) (h : Heap) (nx : Nat) (K : KX CRes) : R7_11 n call (.fn f) df h nx K =
  kLoop (R7_12 n call) n (.fn f) df h nx K :=
  (congrArg (fun c => kCode (β := CRes) Tryz.prog 69 7 590295775172453433344 c n call (.fn f) df h nx K) (show (cL (cR (cL (cR (cR (cR C7)))))) = (.loop (cL (cL (cR (cL (cR (cR (cR C7)))))))) by kernel_rfl)).trans (kCode_loop ..)
theorem R7_12_eq (n : Nat) (call : CallF) (f : Nat → Option AV) (df : Defs) (h : Heap) (nx : Nat) (K : KX CRes) : R7_12 n call (.fn f) df h nx K =
  R7_13 n call (.fn f) df h nx (kThen (R7_14 n call) K) :=
  (congrArg (fun c => kCode (β := CRes) Tryz.prog 69 7 590295775172453433344 c n call (.fn f) df h nx K) (show (cL (cL (cR (cL (cR (cR (cR C7))))))) = (.seq (cL (cL (cL (cR (cL (cR (cR (cR C7)))))))) (cR (cL (cL (cR (cL (cR (cR (cR C7))))))))) by kernel_rfl)).trans (kCode_seq ..)
theorem R7_13_eq (n : Nat) (call : CallF) (f : Nat → Option AV) (df : Defs) (h : Heap) (nx : Nat) (K : KX CRes) : R7_13 n call (.fn f) df h nx K =
  bd (bd (f 29) fun v155 => bd (f 28) fun v156 => (binV .lss (eqT Tryz.prog 8 3) false (!(Tryz.prog.eqGuardType Tryz.prog.depth 3)) v156 v155)) fun v157 =>
  K h nx .normal (.fn (tmL f [(30, v157)])) df := by kernel_rfl
theorem R7_14_eq (n : Nat) (call : CallF) (f : Nat → Option AV) (df : Defs) (h : Heap) (nx : Nat) (K : KX CRes) : R7_14 n call (.fn f) df h nx K =
  R7_15 n call (.fn f) df h nx (kThen (R7_16 n call) K) :=
  (congrArg (fun c => kCode (β := CRes) Tryz.prog 69 7 590295775172453433344 c n call (.fn f) df h nx K) (show (cR (cL (cL (cR (cL (cR (cR (cR C7)))))))) = (.seq (cL (cR (cL (cL (cR (cL (cR (cR (cR C7))))))))) (cR (cR (cL (cL (cR (cL (cR (cR (cR C7)))))))))) by kernel_rfl)).trans (kCode_seq ..)
theorem R7_15_eq (n : Nat) (call : CallF) (f : Nat → Option AV) (df : Defs) (h : Heap) (nx : Nat) (K : KX CRes) : R7_15 n call (.fn f) df h nx K =
  (bd (f 30) fun v159 => onBool v159 fun b158 => sl b158
  (K h nx .normal (.fn f) df)
  (K h nx (.exit 0) (.fn f) df)) := by kernel_rfl
theorem R7_16_eq (n : Nat) (call : CallF) (f : Nat → Option AV) (df : Defs) (h : Heap) (nx : Nat) (K : KX CRes) : R7_16 n call (.fn f) df h nx K =
  R7_17 n call (.fn f) df h nx (kThen (R7_18 n call) K) :=
  (congrArg (fun c => kCode (β := CRes) Tryz.prog 69 7 590295775172453433344 c n call (.fn f) df h nx K) (show (cR (cR (cL (cL (cR (cL (cR (cR (cR C7))))))))) = (.seq (cL (cR (cR (cL (cL (cR (cL (cR (cR (cR C7)))))))))) (cR (cR (cR (cL (cL (cR (cL (cR (cR (cR C7))))))))))) by kernel_rfl)).trans (kCode_seq ..)
theorem R7_17_eq (n : Nat) (call : CallF) (f : Nat → Option AV) (df : Defs) (h : Heap) (nx : Nat) (K : KX CRes) : R7_17 n call (.fn f) df h nx K =
  bd (f 29) fun v160 =>
  bd (bd (f 3) fun v161 => (adr 3 v161)) fun v162 =>
  bd (ld1 h v162) fun v163 =>
  bd (idx 7 v163 v160) fun v164 =>
  bd (bd ((bd (f 9) fun v165 => (ld1 h v165))) fun v166 => some v166) fun v167 =>
  bd (bd ((rNilV v167)) fun v168 => some v168) fun v169 =>
  bd (bd ((adr 0 v169)) fun v170 => some v170) fun v171 =>
  bd (bd ((ld1 h v171)) fun v172 => some v172) fun v173 =>
  bd (bd ((rNilV v164)) fun v174 => some v174) fun v175 =>
  bd (bd ((adr 0 v175)) fun v176 => some v176) fun v177 =>
  bd (bd ((ld1 h v177)) fun v178 => some v178) fun v179 =>
  bd (bd ((lookV (eqT Tryz.prog 8 9) .nilptr false h v173 v179)) fun v180 => some v180) fun v181 =>
  bd (bd ((binV .eql (eqT Tryz.prog 8 52) true (!(Tryz.prog.eqGuardType Tryz.prog.depth 52)) .nilptr v181)) fun v182 => some v182) fun v183 =>
  onBool v183 fun b184 => sl b184
  (bd (bd ((bd (f 9) fun v185 => (ld1 h v185))) fun v186 => some v186) fun v187 =>
  bd (bd ((rNilV v187)) fun v188 => some v188) fun v189 =>
  bd (bd ((adr 0 v189)) fun v190 => some v190) fun v191 =>
  bd (bd ((ld1 h v191)) fun v192 => some v192) fun v193 =>
  bd (bd ((rNilV v164)) fun v194 => some v194) fun v195 =>
  bd (bd ((adr 0 v195)) fun v196 => some v196) fun v197 =>
  bd (bd ((ld1 h v197)) fun v198 => some v198) fun v199 =>
  bd (bd ((rNilV v164)) fun v200 => some v200) fun v201 =>
  bd (bd ((adr 2 v201)) fun v202 => some v202) fun v203 =>
  bd (mapR (eqT Tryz.prog 8 9) h ((nx + 10) + 12) v193 v199 v203) (ares (fun v204 h205 n206 =>
  K h205 n206 .normal (.fn (tmL f [(45, v183), (11, v164), (10, v160)])) df) (fun v207 h208 n209 => K h208 n209 (.pan v207) (.tr .nil) df)))
  (K h (nx + 10) .normal (.fn (tmL f [(45, v183), (11, v164), (10, v160)])) df) := by kernel_rfl
theorem R7_18_eq (n : Nat) (call : CallF) (f : Nat → Option AV) (df : Defs) (h : Heap) (nx : Nat) (K : KX CRes) : R7_18 n call (.fn f) df h nx K =
  bd (bd (f 29) fun v210 => (binV .add (eqT Tryz.prog 8 3) true (!(Tryz.prog.eqGuardType Tryz.prog.depth 3)) (.int .i64 1) v210)) fun v211 =>
  K h nx .normal (.fn (tmL f [(29, v211)])) df := by kernel_rfl
theorem E7_normal (n : Nat) (call : CallF) (f : Nat → Option AV) (h : Heap) (nx : Nat) : E7 n call h nx .normal (.fn f) [] = retL [(bd (f 6) fun v212 => (ldA 5 h v212)), (bd (f 7) fun v213 => (ld1 h v213)), (bd (f 8) fun v214 => (ld1 h v214))] h nx := by kernel_rfl
theorem E7_ret (n : Nat) (call : CallF) (f : Nat → Option AV) (h : Heap) (nx : Nat) : E7 n call h nx .ret (.fn f) [] = retL [(bd (f 6) fun v212 => (ldA 5 h v212)), (bd (f 7) fun v213 => (ld1 h v213)), (bd (f 8) fun v214 => (ld1 h v214))] h nx := by kernel_rfl
theorem E7_pan (n : Nat) (call : CallF) (v : AV) (tm : TM) (h : Heap) (nx : Nat) : E7 n call h nx (.pan v) tm [] = some (.pan v h nx) := by kernel_rfl
end Go.Proofs.YtaajedkbaahgfaaGreatDoor

/-
The deferred function of Eval (14)
-/
namespace Go.Proofs.YtaajedkbaahgfaaGreatDoor
open Go Go.AE
set_option maxRecDepth 100000
noncomputable def C14 : Code := Tryz.f14.body.getD .skip
noncomputable def T14 : Code := cL (cR (cR C14))
noncomputable def D14_2 (n : Nat) (call : CallF) : TM → Defs → Heap → Nat → KX Go.AE.Out → Option Go.AE.Out := kCode (β := Go.AE.Out) Tryz.prog 25 5 0 (cL T14) n call
theorem D14_2_eq (n : Nat) (call : CallF) (f : Nat → Option AV) (df : Defs) (h : Heap) (nx : Nat) (K : KX Go.AE.Out) : D14_2 n call (.fn f) df h nx K =
  bd (f 4) fun v1 =>
  bd (assertV 54 true (.agg [(.int .i64 0)]) v1) fun v2 =>
  bd (extV v2 0) fun v3 =>
  bd (extV v2 1) fun v4 =>
  letH (hset h nx (.cells [(.int .i64 0)])) (Nat.succ nx) fun h5 n6 =>
  bd (stR 1 h5 n6 (.ptr nx 0) v3) (ares (fun v7 h8 n9 =>
  K h8 n9 .normal (.fn (tmL f [(6, v4), (5, (.ptr nx 0)), (14, v4), (13, v3), (10, v2), (12, v2), (11, v1)])) df) (fun v10 h11 n12 => K h11 n12 (.pan v10) (.fn (tmL f [(5, (.ptr nx 0)), (14, v4), (13, v3), (10, v2), (12, v2), (11, v1)])) df)) := by kernel_rfl
noncomputable def D14_5 (n : Nat) (call : CallF) : TM → Defs → Heap → Nat → KX Go.AE.Out → Option Go.AE.Out := kCode (β := Go.AE.Out) Tryz.prog 25 5 0 (cR (cR T14)) n call
theorem D14_5_eq (n : Nat) (call : CallF) (f : Nat → Option AV) (df : Defs) (h : Heap) (nx : Nat) (K : KX Go.AE.Out) : D14_5 n call (.fn f) df h nx K =
  bd (bd ((bd (f 0) fun v1 => (ld1 h v1))) fun v2 => some v2) fun v3 =>
  bd (bd ((rNilV v3)) fun v4 => some v4) fun v5 =>
  bd (bd ((adr 1 v5)) fun v6 => some v6) fun v7 =>
  bd (bd ((ld1 h v7)) fun v8 => some v8) fun v9 =>
  bd (bd (f 1) fun v10 => (stR 5 h (nx + 10) v10 (.agg [(.int .i64 0), (.str 0 0), (.str 0 0), (.int .i64 0), .nilslice]))) (ares (fun v11 h12 n13 =>
  bd (bd (f 2) fun v14 => (stR 1 h12 n13 v14 v9)) (ares (fun v15 h16 n17 =>
  bd (bd ((bd (f 5) fun v18 => (adr 0 v18))) fun v19 => some v19) fun v20 =>
  bd (bd ((ld1 h16 v20)) fun v21 => gd (an (bb (ld1 h12 v20) fun u23 => beqV v21 u23) (an (bb (ld1 h v20) fun u22 => beqV v21 u22) true)) (some v21)) fun v24 =>
  bd (bd (f 3) fun v25 => (stR 1 h16 n17 v25 v24)) (ares (fun v26 h27 n28 =>
  K h27 n28 .normal (.fn (tmL f [(24, v24), (23, v20), (22, v9), (21, v7), (20, v5), (19, v3), (18, (.agg [(.int .i64 0), (.str 0 0), (.str 0 0), (.int .i64 0), .nilslice]))])) df) (fun v29 h30 n31 => K h30 n31 (.pan v29) (.tr .nil) df))) (fun v32 h33 n34 => bd (bd ((bd (f 5) fun v35 => (adr 0 v35))) fun v36 => some v36) fun v37 =>
  bd (bd ((ld1 h12 v37)) fun v38 => gd (an (bb (ld1 h v37) fun u39 => beqV v38 u39) true) (some v38)) fun v40 =>
  K h33 n34 (.pan v32) (.tr .nil) df))) (fun v41 h42 n43 => bd (bd ((bd (f 5) fun v44 => (adr 0 v44))) fun v45 => some v45) fun v46 =>
  bd (bd ((ld1 h v46)) fun v47 => some v47) fun v48 =>
  K h42 n43 (.pan v41) (.tr .nil) df)) := by kernel_rfl
theorem dRun_k (N dp L : Nat) (c : Code) (n : Nat) (call : CallF) (tm : TM) (h : Heap) (nx : Nat) (u : DMode) : dRun (cCode Tryz.prog N dp L c) n call tm h nx u = ob (kCode (β := Go.AE.Out) Tryz.prog N dp L c n call tm [] h nx (fun h nx e tm df => some (.mk e tm df h nx))) (toD u) := by
  rw [← kCode_eq]
  show ob ((cCode Tryz.prog N dp L c).run n call tm [] h nx) (toD u) = _
  cases (cCode Tryz.prog N dp L c).run n call tm [] h nx with
  | none => rfl
  | some o => cases o; rfl
/-- the captures: where the machine is, and the results -/
noncomputable abbrev A14 (a b c d : Nat) : TM := .fn (tmL tm0 [(3, .ptr d 0), (2, .ptr c 0), (1, .ptr b 0), (0, .ptr a 0)])
theorem D14_s1 (n : Nat) (call : CallF) (a b c d : Nat) (e : Int) (h : Heap) (nx : Nat) :
    dCode Tryz.prog 25 5 n call C14 (A14 a b c d) h nx (.panicking (.iface 54 (.agg [.int .i64 e])) false) =
    ob (dRun (cCode Tryz.prog 25 5 0 (cL T14)) n call (.fn (tmL tm0 [(9, .bool true), (8, .iface 54 (.agg [.int .i64 e])), (4, .iface 54 (.agg [.int .i64 e])), (7, .iface 54 (.agg [.int .i64 e])), (3, .ptr d 0), (2, .ptr c 0), (1, .ptr b 0), (0, .ptr a 0)])) h nx (.panicking (.iface 54 (.agg [.int .i64 e])) true)) (dThen (dCode Tryz.prog 25 5 n call (cR T14))) := by kernel_rfl
theorem D14_ret (n : Nat) (call : CallF) (f : Nat → Option AV) (a b c d : AV) (h : Heap) (nx : Nat) : E7 n call h nx .ret (.fn f) [(14, [a, b, c, d])] = retL [(bd (f 6) fun v212 => (ldA 5 h v212)), (bd (f 7) fun v213 => (ld1 h v213)), (bd (f 8) fun v214 => (ld1 h v214))] h nx := by kernel_rfl
theorem D14_retN (n : Nat) (call : CallF) (a b c d : AV) (h : Heap) (nx : Nat) (tm : TM) : E7 n call h nx .ret tm [(14, [a, b, c, d])] = E7 n call h nx .ret tm [] := by kernel_rfl
theorem D14_pan (n : Nat) (call : CallF) (tm : TM) (a b c d : Nat) (v : AV) (h : Heap) (nx : Nat) : E7 n call h nx (.pan v) tm [(14, [.ptr a 0, .ptr b 0, .ptr c 0, .ptr d 0])] =
    ob (ob (dCode Tryz.prog 25 5 n call C14 (A14 a b c d) h nx (.panicking v false)) (dEnd [] fun u h nx => some (.mk u h nx))) (endM (mapL (rsVar Tryz.prog 7) Tryz.f7.results.toList) tm) := by kernel_rfl
end Go.Proofs.YtaajedkbaahgfaaGreatDoor

/-
What the functions of the law answer: Eval's deferred function.
-/
namespace Go.Proofs.YtaajedkbaahgfaaGreatDoor
open Go Go.AE Go.EV
set_option maxRecDepth 100000
set_option maxHeartbeats 2000000
abbrev zt : List AV := [.int .i64 0, .str 0 0, .str 0 0, .int .i64 0, .nilslice]
theorem D14_s2 (n : Nat) (call : CallF) (f : Nat → Option AV) (l : List (Nat × AV)) (h : Heap) (nx : Nat) (u : DMode) : dCode Tryz.prog 25 5 n call (cR T14) (.fn (tmL f ((6, .bool true) :: l))) h nx u =
    dRun (cCode Tryz.prog 25 5 0 (cR (cR T14))) n call (.fn (tmL (tmL f ((6, .bool true) :: l)) [(16, .bool false), (15, .bool true)])) h nx u := by kernel_rfl
theorem D14_end (f : Nat → Option AV) (h : Heap) (nx : Nat) (tm : TM) (v : AV) : ob (dEnd [] (fun u h nx => some (.mk u h nx)) (.mk .normal tm h nx (.panicking v true))) (endM (mapL (rsVar Tryz.prog 7) Tryz.f7.results.toList) (.fn f)) =
    retL [(bd (f 6) fun v212 => (ldA 5 h v212)), (bd (f 7) fun v213 => (ld1 h v213)), (bd (f 8) fun v214 => (ld1 h v214))] h nx := by kernel_rfl
theorem ob_toD {β : Type} (e : Ex) (tm : TM) (h : Heap) (nx : Nat) (u : DMode) (g : DOut2 → Option β) : ob (ob (some (Out.mk e tm [] h nx)) (toD u)) g = g (.mk e tm h nx u) := rfl
theorem dThen_n (k : DRunF) (tm : TM) (h : Heap) (nx : Nat) (u : DMode) : dThen k (.mk .normal tm h nx u) = k tm h nx u := rfl
/-- the end of Eval behind a panic of its own kind -/
theorem eval_recover {h : Heap} {nx a b c d mb : Nat} {mv bv cv dv : AV} {l0 : List AV} {st most e : Int} (f : Nat → Option AV) (n : Nat) (call : CallF)
    (hga : hget h a = some (.cells [.ptr mb 0])) (hgm : hget h mb = some (.cells [mv, .int .i64 st, .int .i64 most])) (hgb : hget h b = some (.cells l0)) (hl0 : l0.length = 5) (hgc : hget h c = some (.cells [cv])) (hgd : hget h d = some (.cells [dv]))
    (hb : b < nx) (hc : c < nx) (hd : d < nx) (hbc : b ≠ c) (hbd : b ≠ d) (hcd : c ≠ d) (lb : h.lo ≤ b) (lc : h.lo ≤ c) (ld : h.lo ≤ d) (han : a ≠ nx) (hmn : mb ≠ nx)
    (f6 : f 6 = some (.ptr b 0)) (f7 : f 7 = some (.ptr c 0)) (f8 : f 8 = some (.ptr d 0)) :
    E7 n call h nx (.pan (ended e)) (.fn f) [(14, [.ptr a 0, .ptr b 0, .ptr c 0, .ptr d 0])] = some (.ret (.tuple [.agg zt, .int .i64 st, .int .i64 e])
      (hset (hset (hset (hset (hset h nx (.cells [.int .i64 0])) nx (.cells [.int .i64 e])) b (.cells zt)) c (.cells [.int .i64 st])) d (.cells [.int .i64 e])) (nx + 1 + 10)) := by
  rw [D14_pan, D14_s1, dRun_k]
  have hp1 : putCells (hset h nx (.cells [.int .i64 0])) nx 0 1 [.int .i64 e] = some (hset (hset h nx (.cells [.int .i64 0])) nx (.cells [.int .i64 e])) := putCells_ok' rfl rfl (hro_high (by rw [hset_lo]; omega)) (by rw [hget_set, if_pos rfl]) rfl
  generalize hh1 : hset (hset h nx (.cells [.int .i64 0])) nx (.cells [.int .i64 e]) = h1 at hp1
  have hf : ∀ k, k ≠ nx → hget h1 k = hget h k := fun k hk => by rw [← hh1, hget_set, if_neg hk, hget_set, if_neg hk]
  have h1n : hget h1 nx = some (.cells [.int .i64 e]) := by rw [← hh1, hget_set, if_pos rfl]
  have hlo1 : h1.lo = h.lo := by rw [← hh1, hset_lo, hset_lo]
  have hass : assertV 54 true (.agg [.int .i64 0]) (.iface 54 (.agg [.int .i64 e])) = some (.tuple [.agg [.int .i64 e], .bool true]) := rfl
  show ob (ob (ob (ob (D14_2 n call (.fn (tmL tm0 [(9, .bool true), (8, ended e), (4, ended e), (7, ended e), (3, .ptr d 0), (2, .ptr c 0), (1, .ptr b 0), (0, .ptr a 0)])) [] h nx (fun h nx e tm df => some (.mk e tm df h nx))) (toD _)) (dThen _)) _) _ = _
  have e2 : D14_2 n call (.fn (tmL tm0 [(9, .bool true), (8, ended e), (4, ended e), (7, ended e), (3, .ptr d 0), (2, .ptr c 0), (1, .ptr b 0), (0, .ptr a 0)])) [] h nx (fun h nx e tm df => some (.mk e tm df h nx)) =
      some (.mk .normal (.fn (tmL (tmL tm0 [(9, .bool true), (8, ended e), (4, ended e), (7, ended e), (3, .ptr d 0), (2, .ptr c 0), (1, .ptr b 0), (0, .ptr a 0)]) [(6, .bool true), (5, .ptr nx 0), (14, .bool true), (13, .agg [.int .i64 e]), (10, .tuple [.agg [.int .i64 e], .bool true]), (12, .tuple [.agg [.int .i64 e], .bool true]), (11, ended e)])) [] h1 (nx + 1)) := by
    repeat (first | simp -eta only [SY, ↓reduceIte, Nat.reduceEqDiff, Nat.reduceAdd, hass, r_ext0, r_ext1, hp1] | simp -eta only [KY, ↓reduceIte, Nat.reduceEqDiff, D14_2_eq])
  rw [e2, ob_toD, dThen_n, D14_s2, dRun_k]
  show ob (ob (ob (D14_5 n call _ [] h1 (nx + 1) (fun h nx e tm df => some (.mk e tm df h nx))) (toD _)) _) _ = _
  -- three results are written
  have hp2 : putCells h1 b 0 5 zt = some (hset h1 b (.cells zt)) := by
    have : lsplice 0 zt l0 = some zt := by
      match l0, hl0 with
      | [_, _, _, _, _], _ => rfl
    exact putCells_ok' rfl rfl (hro_high (by omega)) ((hf b (by omega)).trans hgb) this
  generalize hh2 : hset h1 b (.cells zt) = h2 at hp2
  have hf2 : ∀ k, k ≠ b → hget h2 k = hget h1 k := fun k hk => by rw [← hh2, hget_set, if_neg hk]
  have hlo2 : h2.lo = h.lo := by rw [← hh2, hset_lo, hlo1]
  have hp3 : putCells h2 c 0 1 [.int .i64 st] = some (hset h2 c (.cells [.int .i64 st])) := putCells_ok' rfl rfl (hro_high (by omega)) ((hf2 c (by omega)).trans ((hf c (by omega)).trans hgc)) rfl
  generalize hh3 : hset h2 c (.cells [.int .i64 st]) = h3 at hp3
  have hf3 : ∀ k, k ≠ c → hget h3 k = hget h2 k := fun k hk => by rw [← hh3, hget_set, if_neg hk]
  have hlo3 : h3.lo = h.lo := by rw [← hh3, hset_lo, hlo2]
  have hp4 : putCells h3 d 0 1 [.int .i64 e] = some (hset h3 d (.cells [.int .i64 e])) := putCells_ok' rfl rfl (hro_high (by omega)) ((hf3 d (by omega)).trans ((hf2 d (by omega)).trans ((hf d (by omega)).trans hgd))) rfl
  generalize hh4 : hset h3 d (.cells [.int .i64 e]) = h4 at hp4
  have ha1 := (hf a han).trans hga
  have hm1 := (hf mb hmn).trans hgm
  have hn2 := (hf2 nx (by omega)).trans h1n
  have hn3 := (hf3 nx (by omega)).trans hn2
  have h4d : hget h4 d = some (.cells [.int .i64 e]) := by rw [← hh4, hget_set, if_pos rfl]
  have h4c : hget h4 c = some (.cells [.int .i64 st]) := by rw [← hh4, hget_set, if_neg hcd, ← hh3, hget_set, if_pos rfl]
  have h4b : hget h4 b = some (.cells zt) := by rw [← hh4, hget_set, if_neg hbd, ← hh3, hget_set, if_neg hbc, ← hh2, hget_set, if_pos rfl]
  have hrun5 : (pkAgg 5).run zt 0 = some (.agg zt) := rfl
  have e5 : ∃ tm, D14_5 n call (.fn (tmL (tmL (tmL tm0 [(9, .bool true), (8, ended e), (4, ended e), (7, ended e), (3, .ptr d 0), (2, .ptr c 0), (1, .ptr b 0), (0, .ptr a 0)]) [(6, .bool true), (5, .ptr nx 0), (14, .bool true), (13, .agg [.int .i64 e]), (10, .tuple [.agg [.int .i64 e], .bool true]), (12, .tuple [.agg [.int .i64 e], .bool true]), (11, ended e)]) [(16, .bool false), (15, .bool true)])) [] h1 (nx + 1) (fun h nx e tm df => some (.mk e tm df h nx)) =
      some (.mk .normal tm [] h4 (nx + 1 + 10)) := by
    refine ⟨?_, ?_⟩
    rotate_left
    · repeat (first | simp -eta only [SY, ↓reduceIte, Nat.reduceEqDiff, Nat.reduceAdd, r_loadB _ _ ha1, r_loadB _ _ hm1, hp2, hp3, hp4, r_loadB _ _ h1n, r_loadB _ _ hn2, r_loadB _ _ hn3] | simp -eta only [KY, ↓reduceIte, Nat.reduceEqDiff, D14_5_eq])
      rfl
  obtain ⟨tm5, e5⟩ := e5
  rw [e5, ob_toD]
  refine (D14_end f h4 (nx + 1 + 10) tm5 (ended e)).trans ?_
  repeat (first | simp -eta only [SY, ↓reduceIte, Nat.reduceEqDiff, Nat.reduceAdd, f6, f7, f8, r_loadB _ _ h4b, r_loadB _ _ h4c, r_loadB _ _ h4d, hrun5] | simp -eta only [KY, ↓reduceIte, Nat.reduceEqDiff])
end Go.Proofs.YtaajedkbaahgfaaGreatDoor

/-
Residual of function 16
-/
namespace Go.Proofs.YtaajedkbaahgfaaGreatDoor
open Go Go.AE
set_option maxRecDepth 100000
/-! (touchstone/eval.machine).shown -/
noncomputable def C16 : Code := Tryz.f16.body.getD .skip
noncomputable def E16 (n : Nat) (call : CallF) : KX CRes := kEnd Tryz.prog true locOfF n call (mapL (rsVar Tryz.prog 6) Tryz.f16.results.toList)
noncomputable def R16_0 (n : Nat) (call : CallF) : TM → Defs → Heap → Nat → KX CRes → Option CRes := kCode (β := CRes) Tryz.prog 48 6 281442764192768 C16 n call
noncomputable def R16_1 (n : Nat) (call : CallF) : TM → Defs → Heap → Nat → KX CRes → Option CRes := kCode (β := CRes) Tryz.prog 48 6 281442764192768 (cL C16) n call
noncomputable def R16_2 (n : Nat) (call : CallF) : TM → Defs → Heap → Nat → KX CRes → Option CRes := kCode (β := CRes) Tryz.prog 48 6 281442764192768 (cR C16) n call
noncomputable def R16_3 (n : Nat) (call : CallF) : TM → Defs → Heap → Nat → KX CRes → Option CRes := kCode (β := CRes) Tryz.prog 48 6 281442764192768 (cL (cR C16)) n call
noncomputable def R16_4 (n : Nat) (call : CallF) : TM → Defs → Heap → Nat → KX CRes → Option CRes := kCode (β := CRes) Tryz.prog 48 6 281442764192768 (cR (cR C16)) n call
noncomputable def R16_5 (n : Nat) (call : CallF) : TM → Defs → Heap → Nat → KX CRes → Option CRes := kCode (β := CRes) Tryz.prog 48 6 281442764192768 (cL (cR (cR C16))) n call
noncomputable def R16_6 (n : Nat) (call : CallF) : TM → Defs → Heap → Nat → KX CRes → Option CRes := kCode (β := CRes) Tryz.prog 48 6 281442764192768 (cR (cR (cR C16))) n call
noncomputable def R16_7 (n : Nat) (call : CallF) : TM → Defs → Heap → Nat → KX CRes → Option CRes := kCode (β := CRes) Tryz.prog 48 6 281442764192768 (cL (cR (cR (cR C16)))) n call
noncomputable def R16_8 (n : Nat) (call : CallF) : TM → Defs → Heap → Nat → KX CRes → Option CRes := kCode (β := CRes) Tryz.prog 48 6 281442764192768 (cR (cR (cR (cR C16)))) n call
noncomputable def R16_9 (n : Nat) (call : CallF) : TM → Defs → Heap → Nat → KX CRes → Option CRes := kCode (β := CRes) Tryz.prog 48 6 281442764192768 (cL (cL (cR (cR (cR C16))))) n call
noncomputable def R16_10 (n : Nat) (call : CallF) : TM → Defs → Heap → Nat → KX CRes → Option CRes := kCode (β := CRes) Tryz.prog 48 6 281442764192768 (cR (cL (cR (cR (cR C16))))) n call
noncomputable def R16_11 (n : Nat) (call : CallF) : TM → Defs → Heap → Nat → KX CRes → Option CRes := kCode (β := CRes) Tryz.prog 48 6 281442764192768 (cL (cR (cL (cR (cR (cR C16)))))) n call
noncomputable def R16_12 (n : Nat) (call : CallF) : TM → Defs → Heap → Nat → KX CRes → Option CRes := kCode (β := CRes) Tryz.prog 48 6 281442764192768 (cL (cL (cR (cL (cR (cR (cR C16))))))) n call
noncomputable def F16 (n : Nat) (call : CallF) (pb0 po0 : Nat) (a1 : AV) (pb2 po2 : Nat) (h : Heap) (nx : Nat) : Option CRes :=
  R16_0 n call (.fn (tmL tm0 [(2, (.ptr pb2 po2)), (1, a1), (0, (.ptr pb0 po0))])) [] h nx (E16 n call)
theorem F16_eq {sp : Specs} (hsp : sp 16 = none) (n : Nat) (call : CallF) (pb0 po0 : Nat) (a1 : AV) (pb2 po2 : Nat) (h : Heap) (nx : Nat) : callS Tryz.prog true sp locOfF n call 16 [(.ptr pb0 po0), a1, (.ptr pb2 po2)] h nx = F16 n call pb0 po0 a1 pb2 po2 h nx :=
  (call_eq2 Tryz.func16 (c := C16) (N := 48) (dp := 6) (L := 281442764192768) (tm := (.fn (tmL tm0 [(2, (.ptr pb2 po2)), (1, a1), (0, (.ptr pb0 po0))]))) (by kernel_rfl) (by kernel_rfl) (by kernel_rfl) (by kernel_rfl) (by kernel_rfl) (by kernel_rfl) hsp n call h nx).trans (by kernel_rfl)
theorem R16_0_eq (n : Nat) (call : CallF) (f : Nat → Option AV) (df : Defs) (h : Heap) (nx : Nat) (K : KX CRes) : R16_0 n call (.fn f) df h nx K =
  R16_1 n call (.fn f) df h nx (kThen (R16_2 n call) K) :=
  (congrArg (fun c => kCode (β := CRes) Tryz.prog 48 6 281442764192768 c n call (.fn f) df h nx K) (show C16 = (.seq (cL C16) (cR C16)) by kernel_rfl)).trans (kCode_seq ..)
theorem R16_1_eq (n : Nat) (call : CallF) (f : Nat → Option AV) (df : Defs) (h : Heap) (nx : Nat) (K : KX CRes) : R16_1 n call (.fn f) df h nx K =
  bd (bd (f 1) fun v1 => (boxR nx v1)) fun r2 =>
  letH (hset h nx r2.2) (Nat.succ nx) fun h3 n4 =>
  letH (hset h3 n4 (.cells [(.int .i64 0), (.str 0 0), (.str 0 0), (.int .i64 0), .nilslice])) (Nat.succ n4) fun h5 n6 =>
  K h5 n6 .normal (.fn (tmL f [(6, (.ptr n4 0)), (4, r2.1)])) df := by kernel_rfl
theorem R16_2_eq (n : Nat) (call : CallF) (f : Nat → Option AV) (df : Defs) (h : Heap) (nx : Nat) (K : KX CRes) : R16_2 n call (.fn f) df h nx K =
  R16_3 n call (.fn f) df h nx (kThen (R16_4 n call) K) :=
  (congrArg (fun c => kCode (β := CRes) Tryz.prog 48 6 281442764192768 c n call (.fn f) df h nx K) (show (cR C16) = (.seq (cL (cR C16)) (cR (cR C16))) by kernel_rfl)).trans (kCode_seq ..)
theorem R16_3_eq (n : Nat) (call : CallF) (f : Nat → Option AV) (df : Defs) (h : Heap) (nx : Nat) (K : KX CRes) : R16_3 n call (.fn f) df h nx K =
  bd (f 2) fun v7 =>
  bd (rNilV v7) fun v8 =>
  bd (ld1 h v8) fun v9 =>
  bd (binV .sub (eqT Tryz.prog 8 3) true (!(Tryz.prog.eqGuardType Tryz.prog.depth 3)) (.int .i64 1) v9) fun v10 =>
  bd (rNilV v7) fun v11 =>
  bd (stR 1 h nx v11 v10) (ares (fun v12 h13 n14 =>
  bd (f 2) fun v15 =>
  bd (rNilV v15) fun v16 =>
  bd (ld1 h13 v16) fun v17 =>
  bd (binV .lss (eqT Tryz.prog 8 3) true (!(Tryz.prog.eqGuardType Tryz.prog.depth 3)) (.int .i64 0) v17) fun v18 =>
  onBool v18 fun b19 => sl b19
  (bd (panR (.iface 54 (.agg [(.int .i64 9)])) h13 n14) (ares (fun v20 h21 n22 =>
  K h21 n22 .normal (.fn (tmL f [(18, v18)])) df) (fun v23 h24 n25 => K h24 n25 (.pan v23) (.fn (tmL f [(18, v18)])) df)))
  (K h13 n14 .normal (.fn (tmL f [(18, v18)])) df)) (fun v26 h27 n28 => K h27 n28 (.pan v26) (.fn f) df)) := by kernel_rfl
theorem R16_4_eq (n : Nat) (call : CallF) (f : Nat → Option AV) (df : Defs) (h : Heap) (nx : Nat) (K : KX CRes) : R16_4 n call (.fn f) df h nx K =
  R16_5 n call (.fn f) df h nx (kThen (R16_6 n call) K) :=
  (congrArg (fun c => kCode (β := CRes) Tryz.prog 48 6 281442764192768 c n call (.fn f) df h nx K) (show (cR (cR C16)) = (.seq (cL (cR (cR C16))) (cR (cR (cR C16)))) by kernel_rfl)).trans (kCode_seq ..)
theorem R16_5_eq (n : Nat) (call : CallF) (f : Nat → Option AV) (df : Defs) (h : Heap) (nx : Nat) (K : KX CRes) : R16_5 n call (.fn f) df h nx K =
  bd (bd (f 4) fun v29 => (adr 0 v29)) fun v30 =>
  bd (ld1 h v30) fun v31 =>
  bd (bd (f 4) fun v32 => (adr 1 v32)) fun v33 =>
  bd (ld1 h v33) fun v34 =>
  bd (bd (f 4) fun v35 => (adr 2 v35)) fun v36 =>
  bd (ld1 h v36) fun v37 =>
  bd (bd (f 4) fun v38 => (adr 3 v38)) fun v39 =>
  bd (ld1 h v39) fun v40 =>
  bd (bld [(.int .i64 0), (.str 0 0), (.str 0 0), (.int .i64 0), .nilslice] [(0, 1, v31), (1, 1, v34), (2, 1, v37), (3, 1, v40)]) fun v41 =>
  letH (hset h nx (.cells [(.int .i64 0), (.str 0 0), (.str 0 0), (.int .i64 0), .nilslice])) (Nat.succ nx) fun h42 n43 =>
  bd (stR 5 h42 n43 (.ptr nx 0) v41) (ares (fun v44 h45 n46 =>
  K h45 n46 .normal (.fn (tmL f [(7, (.ptr nx 0))])) df) (fun v47 h48 n49 => K h48 n49 (.pan v47) (.fn (tmL f [(7, (.ptr nx 0))])) df)) := by kernel_rfl
theorem R16_6_eq (n : Nat) (call : CallF) (f : Nat → Option AV) (df : Defs) (h : Heap) (nx : Nat) (K : KX CRes) : R16_6 n call (.fn f) df h nx K =
  R16_7 n call (.fn f) df h nx (kThen (R16_8 n call) K) :=
  (congrArg (fun c => kCode (β := CRes) Tryz.prog 48 6 281442764192768 c n call (.fn f) df h nx K) (show (cR (cR (cR C16))) = (.seq (cL (cR (cR (cR C16)))) (cR (cR (cR (cR C16))))) by kernel_rfl)).trans (kCode_seq ..)
theorem R16_7_eq (n : Nat) (call : CallF) (f : Nat → Option AV) (df : Defs) (h : Heap) (nx : Nat) (K : KX CRes) : R16_7 n call (.fn f) df h nx K =
  R16_9 n call (.fn f) df h nx (kThen (R16_10 n call) K) :=
  (congrArg (fun c => kCode (β := CRes) Tryz.prog 48 6 281442764192768 c n call (.fn f) df h nx K) (show (cL (cR (cR (cR C16)))) = (.seq (cL (cL (cR (cR (cR C16))))) (cR (cL (cR (cR (cR C16)))))) by kernel_rfl)).trans (kCode_seq ..)
theorem R16_8_eq (n : Nat) (call : CallF) (f : Nat → Option AV) (df : Defs) (h : Heap) (nx : Nat) (K : KX CRes) : R16_8 n call (.fn f) df h nx K =
  bd (bd (f 7) fun v50 => (ldA 5 h v50)) fun v51 =>
  bd (bd (f 6) fun v52 => (stR 5 h nx v52 v51)) (ares (fun v53 h54 n55 =>
  K h54 n55 .ret (.fn f) df) (fun v56 h57 n58 => K h57 n58 (.pan v56) (.fn f) df)) := by kernel_rfl
theorem R16_9_eq (n : Nat) (call : CallF) (f : Nat → Option AV) (df : Defs) (h : Heap) (nx : Nat) (K : KX CRes) : R16_9 n call (.fn f) df h nx K =
  bd (bd (f 4) fun v59 => (adr 4 v59)) fun v60 =>
  bd (ld1 h v60) fun v61 =>
  bd (lenSl v61) fun v62 =>
  K h nx .normal (.fn (tmL f [(33, (.int .i64 0)), (32, v62), (31, v61)])) df := by kernel_rfl
theorem R16_10_eq (n : Nat) (call : CallF) (f : Nat → Option AV) (df : Defs) (h : Heap) (nx : Nat) (K : KX CRes) : R16_10 n call (.fn f) df h nx K =
  R16_11 n call (.fn f) df h nx (kLeave 0 K) :=
  (congrArg (fun c => kCode (β := CRes) Tryz.prog 48 6 281442764192768 c n call (.fn f) df h nx K) (show (cR (cL (cR (cR (cR C16))))) = (.block 0 (cL (cR (cL (cR (cR (cR C16))))))) by kernel_rfl)).trans (kCode_block ..)
theorem R16_11_eq (n : Nat) (call : CallF) (f : Nat → Option AV) (df : Defs) (h : Heap) (nx : Nat) (K : KX CRes) : R16_11 n call (.fn f) df h nx K =
  kLoop (R16_12 n call) n (.fn f) df h nx K :=
  (congrArg (fun c => kCode (β := CRes) Tryz.prog 48 6 281442764192768 c n call (.fn f) df h nx K) (show (cL (cR (cL (cR (cR (cR C16)))))) = (.loop (cL (cL (cR (cL (cR (cR (cR C16)))))))) by kernel_rfl)).trans (kCode_loop ..)
theorem R16_12_eq (n : Nat) (call : CallF) (f : Nat → Option AV) (df : Defs) (h : Heap) (nx : Nat) (K : KX CRes) : R16_12 n call (.fn f) df h nx K =
  bd (bd (f 33) fun v63 => bd (f 32) fun v64 => (binV .lss (eqT Tryz.prog 8 3) false (!(Tryz.prog.eqGuardType Tryz.prog.depth 3)) v64 v63)) fun v65 =>
  onBool v65 fun b66 => sl b66
  (bd (bd (f 31) fun v67 => bd (f 33) fun v68 => (idx 7 v67 v68)) fun v69 =>
  bd (ldA 7 h v69) fun v70 =>
  letH (hset h nx (.cells [(.int .i64 0), (.str 0 0), (.str 0 0), (.int .i64 0), .nilslice, .nilptr, .nilptr])) (Nat.succ nx) fun h71 n72 =>
  bd (stR 7 h71 n72 (.ptr nx 0) v70) (ares (fun v73 h74 n75 =>
  bd (bd ((f 0)) fun v76 => some v76) fun v77 =>
  bd (bd ((loadB (pkAgg 7) h74 nx 0)) fun v78 => some v78) fun v79 =>
  bd (bd ((f 2)) fun v80 => some v80) fun v81 =>
  bd (clR call 16 [v77, v79, v81] h74 (n75 + 10)) (ares (fun v82 h83 n84 =>
  bd (bd ((bd (f 7) fun v85 => (adr 4 v85))) fun v86 => some v86) fun v87 =>
  bd (bd ((ld1 h83 v87)) fun v88 => gd (an (bb (ld1 h74 v87) fun u89 => beqV v88 u89) true) (some v88)) fun v90 =>
  bd (rowR (n75 + 6) [(.int .i64 0), (.str 0 0), (.str 0 0), (.int .i64 0), .nilslice] 1 5 [(0, 5, v82)]) fun r91 =>
  letH (hset h83 (n75 + 6) r91.2) n84 fun h92 _ =>
  bd (appV 5 h92 (n75 + 7) n84 v90 r91.1) (ares (fun v93 h94 n95 =>
  bd (bd ((bd (f 7) fun v96 => (adr 4 v96))) fun v97 => some v97) fun v98 =>
  bd (stR 1 h94 n95 v98 v93) (ares (fun v99 h100 n101 =>
  bd (bd (f 33) fun v102 => (binV .add (eqT Tryz.prog 8 3) true (!(Tryz.prog.eqGuardType Tryz.prog.depth 3)) (.int .i64 1) v102)) fun v103 =>
  K h100 n101 .normal (.fn (tmL f [(33, v103), (9, (.ptr nx 0)), (34, v65)])) df) (fun v104 h105 n106 => K h105 n106 (.pan v104) (.tr .nil) df))) (fun v107 h108 n109 => K h108 n109 (.pan v107) (.tr .nil) df))) (fun v110 h111 n112 => bd (bd ((bd (f 7) fun v113 => (adr 4 v113))) fun v114 => some v114) fun v115 =>
  bd (bd ((ld1 h74 v115)) fun v116 => some v116) fun v117 =>
  K h111 n112 (.pan v110) (.tr .nil) df))) (fun v118 h119 n120 => K h119 n120 (.pan v118) (.fn (tmL f [(9, (.ptr nx 0)), (34, v65)])) df)))
  (K h nx (.exit 0) (.fn (tmL f [(34, v65)])) df) := by kernel_rfl
theorem E16_normal (n : Nat) (call : CallF) (f : Nat → Option AV) (h : Heap) (nx : Nat) : E16 n call h nx .normal (.fn f) [] = retL [(bd (f 6) fun v121 => (ldA 5 h v121))] h nx := by kernel_rfl
theorem E16_ret (n : Nat) (call : CallF) (f : Nat → Option AV) (h : Heap) (nx : Nat) : E16 n call h nx .ret (.fn f) [] = retL [(bd (f 6) fun v121 => (ldA 5 h v121))] h nx := by kernel_rfl
theorem E16_pan (n : Nat) (call : CallF) (v : AV) (tm : TM) (h : Heap) (nx : Nat) : E16 n call h nx (.pan v) tm [] = some (.pan v h nx) := by kernel_rfl
end Go.Proofs.YtaajedkbaahgfaaGreatDoor

/-
What the functions of the law answer: shown.
-/
namespace Go.EV
mutual
/-- a value, shown: what is left of so many terms -/
def shV : Vl → Nat → Option (Tm × Nat)
  | .mk k p s n kids _ _, left => match left with
    | 0 => none
    | left + 1 => match shL kids left with
      | some (ts, l) => some (.mk k p s n ts, l)
      | none => none
def shL : List Vl → Nat → Option (List Tm × Nat)
  | [], left => some ([], left)
  | v :: vs, left => match shV v left with
    | none => none
    | some (t, l) => match shL vs l with
      | none => none
      | some (ts, l) => some (t :: ts, l)
end
end Go.EV
namespace Go.Proofs.YtaajedkbaahgfaaGreatDoor
open Go Go.AE Go.EV
set_option maxRecDepth 100000
set_option maxHeartbeats 2000000
theorem sp16 : spL 16 = none := rfl
theorem rds_app {B : Nat} {σ : Sto} {new : List Tm} {cs' : List AV} (hn : RdSB B σ new cs' 0) (hl' : cs'.length = 5 * new.length) : ∀ {ts : List Tm} {cs : List AV} {o : Nat}, RdSB B σ ts cs o → cs.length = o + 5 * ts.length → RdSB B σ (ts ++ new) (cs ++ cs') o := by
  intro ts
  induction ts with
  | nil =>
    intro cs o _ hl
    have key : ∀ (ts : List Tm) (cs' : List AV) (q : Nat), RdSB B σ ts cs' q → RdSB B σ ts (cs ++ cs') (o + q) := by
      intro ts
      induction ts with
      | nil => intro cs' q _; exact .nil _ _
      | cons t ts ih =>
        intro cs' q h
        cases h with
        | cons _ _ _ _ h r =>
          refine .cons t ts _ _ ?_ (ih _ _ r)
          rw [List.drop_append, List.drop_of_length_le (by simp at hl; omega), List.nil_append, show o + q - cs.length = q by simp at hl; omega]
          exact h
    exact key new cs' 0 hn
  | cons w ts ih =>
    intro cs o h hl
    cases h with
    | cons _ _ _ _ h r =>
      simp at hl
      refine .cons w _ _ _ ?_ (ih r (by omega))
      rw [List.drop_append_of_le_length (by omega), List.take_append_of_le_length (by simp; omega)]
      exact h
theorem rds_one {B : Nat} {σ : Sto} {t : Tm} {cs : List AV} (h : RdTB B σ t cs) : RdSB B σ [t] cs 0 ∧ cs.length = 5 * [t].length := by
  have h5 : cs.length = 5 := by obtain ⟨ks, hl, _⟩ := rdt_inv h; rw [hl]; rfl
  exact ⟨.cons t [] _ _ (by rw [List.drop_zero, List.take_of_length_le (by omega)]; exact h) (.nil _ _), by simp [h5]⟩
theorem rds_two {B : Nat} {σ : Sto} {t u : Tm} {cs cs' : List AV} (h : RdTB B σ t cs) (h' : RdTB B σ u cs') : RdSB B σ [t, u] (cs ++ cs') 0 ∧ (cs ++ cs').length = 5 * [t, u].length :=
  ⟨rds_app (rds_one h').1 (rds_one h').2 (rds_one h).1 (by simpa using (rds_one h).2), by have := (rds_one h).2; have := (rds_one h').2; simp at *; omega⟩
theorem rdt_len {σ : Sto} {t : Tm} {l : List AV} (h : RdT σ t l) : l.length = 5 := by obtain ⟨ks, hl, _⟩ := rdt_inv h; rw [hl]; rfl
theorem rdks_one {B : Nat} {σ : Sto} {vs : List Tm} {ks : AV} (h : RdKsB B σ vs ks) : ks = .nilslice ∨ ∃ b o n c z, ks = .slice b o n c z := by
  cases h with
  | nil => exact .inl rfl
  | row kids b o cap cs hb hl h => exact .inr ⟨_, _, _, _, _, rfl⟩
theorem rdt_one {B : Nat} {σ : Sto} {t : Tm} {l : List AV} (h : RdTB B σ t l) : allOne l = true := by
  obtain ⟨ks, rfl, hk⟩ := rdt_inv h
  rcases rdks_one hk with rfl | ⟨_, _, _, _, _, rfl⟩ <;> rfl
inductive OutTB (B : Nat) (nx0 m : Nat) (h : Heap) (nx : Nat) (σ : Sto) : List Tm → AV → Prop where
  | nil : OutTB B nx0 m h nx σ [] .nilslice
  | row (ts : List Tm) (b : Nat) (cs : List AV) (hg : hget h b = some (.cells cs)) (hs : σ b = none) (h0 : nx0 ≤ b) (hb : b < nx) (hlo : h.lo ≤ b) (hm : b ≠ m) (hv : RdSB B σ ts cs 0) (hl : cs.length = 5 * ts.length) : OutTB B nx0 m h nx σ ts (.slice b 0 ts.length none 5)
abbrev OutT := OutTB 4611686018427387904
/-- later; 'nx' may stay behind -/
theorem OutTB.later {B : Nat} {nx0 m : Nat} {h h' : Heap} {nx nx1 nx' : Nat} {σ σ' : Sto} {ts : List Tm} {out : AV} (o : OutTB B nx0 m h nx σ ts out) (hn : nx ≤ nx1) (L : Later h nx1 m σ h' nx' σ') : OutTB B nx0 m h' nx σ' ts out := by
  cases o with
  | nil => exact .nil
  | row ts b cs hg hs h0 hb hlo hm hv hl => exact .row ts b cs ((L.old b (by omega) hm).trans hg) ((L.sold b (by omega)).trans hs) h0 hb (by rw [L.lo]; exact hlo) hm (hv.mono L.sle) hl
theorem OutTB.up {B : Nat} {nx0 m : Nat} {h : Heap} {nx nx' : Nat} {σ : Sto} {ts : List Tm} {out : AV} (o : OutTB B nx0 m h nx σ ts out) (hn : nx ≤ nx') : OutTB B nx0 m h nx' σ ts out := by
  cases o with
  | nil => exact .nil
  | row ts b cs hg hs h0 hb hlo hm hv hl => exact .row ts b cs hg hs h0 (by omega) hlo hm hv hl
theorem OutTB.write {B : Nat} {nx0 m : Nat} {h : Heap} {nx : Nat} {σ : Sto} {ts : List Tm} {out : AV} (o : OutTB B nx0 m h nx σ ts out) {id : Nat} {x : Blk} (hne : ∀ b o n c z, out = .slice b o n c z → b ≠ id) : OutTB B nx0 m (hset h id x) nx σ ts out := by
  cases o with
  | nil => exact .nil
  | row ts b cs hg hs h0 hb hlo hm hv hl => exact .row ts b cs (by rw [hget_set, if_neg (hne _ _ _ _ _ rfl)]; exact hg) hs h0 hb (by rw [hset_lo]; exact hlo) hm hv hl
theorem outTB_app {B : Nat} {m nx0 : Nat} {h0 : Heap} {σ0 : Sto} {h : Heap} {nx nxE id1 id2 : Nat} {σ : Sto} {ts new : List Tm} {out : AV} {cs : List AV} (o : OutTB B nx0 m h nxE σ ts out) (L : Later h0 nx0 m σ0 h nx σ) (hv : RdSB B σ new cs 0) (hl : cs.length = 5 * new.length) (hone : allOne cs = true) (hpos : 0 < new.length) (hnew : new.length < 1000000) (hlen : ts.length + new.length < 1000000)
    (h1 : nxE ≤ id1) (h2 : id1 < id2) (h3 : id2 ≤ nx) (hs1 : σ id1 = none) (hs2 : σ id2 = none) (h0E : nx0 ≤ nxE) (hm0 : Mem h0 nx0 m σ0) :
    ∃ out' h', appV 5 (hset h id1 (.cells cs)) id2 nx out (.slice id1 0 new.length (some new.length) 5) = some (.val out' h' (nx + 1)) ∧ Later h0 nx0 m σ0 h' (nx + 1) σ ∧ OutTB B nx0 m h' (nx + 1) σ (ts ++ new) out' ∧ (∃ b, out' = .slice b 0 (ts.length + new.length) none 5 ∧ nxE ≤ b) ∧ (∀ k, k < nxE → (∀ b o n c z, out = .slice b o n c z → k ≠ b) → hget h' k = hget h k) := by
  have hml := hm0.mlt
  have hlo0 := hm0.lo
  have hlo := L.lo
  have hg1 : hget (hset h id1 (.cells cs)) id1 = some (.cells cs) := by rw [hget_set, if_pos rfl]
  have hble : Nat.ble new.length new.length = true := Nat.ble_eq.mpr (Nat.le_refl _)
  have hsrc : srcA (hset h id1 (.cells cs)) 5 new.length (.slice id1 0 new.length (some new.length) 5) = some cs := by
    show gd (an (Nat.beq 5 5) (Nat.ble new.length new.length)) (ob (hget (hset h id1 (.cells cs)) id1) _) = _
    rw [hg1, hble]
    show ltake (new.length * 5) (ldrop 0 cs) = _
    rw [ldrop_eq, List.drop_zero, ltake_eq (by omega), List.take_of_length_le (by omega)]
  have hblt : Nat.blt new.length 1000000 = true := by rw [Nat.blt_eq]; exact hnew
  have hz : Nat.beq new.length 0 = false := beq_ne (by omega)
  have L1 := L.write (.cells cs) (id := id1) (by omega) hs1
  cases o with
  | nil =>
    refine ⟨.slice id2 0 new.length none 5, hset (hset h id1 (.cells cs)) id2 (.cells cs), ?_, (L1.write (.cells cs) (id := id2) (by omega) hs2).trans ((L1.write (.cells cs) (id := id2) (by omega) hs2).mem.more (by omega)), ?_, ⟨id2, by simp, by omega⟩, fun k hk _ => by rw [hget_set, if_neg (by omega), hget_set, if_neg (by omega)]⟩
    · show guardB (Nat.blt new.length 1000000) (ob (srcA (hset h id1 (.cells cs)) 5 new.length (.slice id1 0 new.length (some new.length) 5)) _) = _
      rw [hsrc, hblt]
      show sel (Nat.beq new.length 0) _ _ = _
      rw [hz]; rfl
    · rw [List.nil_append]
      exact .row new id2 cs (by rw [hget_set, if_pos rfl]) hs2 (by omega) (by omega) (by rw [hset_lo, hset_lo]; omega) (by omega) hv hl
  | row ts b os hg hs h0b hb hblo hbm hvs hol =>
    have hgb : hget (hset h id1 (.cells cs)) b = some (.cells os) := by rw [hget_set, if_neg (by omega)]; exact hg
    have L2 := L1.del h0b hs
    have L3 := L2.write (.cells (os ++ cs)) (id := id2) (by omega) hs2
    refine ⟨.slice id2 0 (ts.length + new.length) none 5, hset (hdel (hset h id1 (.cells cs)) b) id2 (.cells (os ++ cs)), ?_, L3.trans (L3.mem.more (by omega)), ?_, ⟨id2, rfl, by omega⟩, fun k hk hkb => by rw [hget_set, if_neg (by omega), hget_del _ (hkb _ _ _ _ _ rfl), hget_set, if_neg (by omega)]⟩
    · show guardB (Nat.blt new.length 1000000) (ob (srcA (hset h id1 (.cells cs)) 5 new.length (.slice id1 0 new.length (some new.length) 5)) _) = _
      rw [hsrc, hblt]
      show sel (Nat.beq new.length 0) _ (guardB (allOne cs) (guardB (notB (hro (hset h id1 (.cells cs)) b)) (guardB (Nat.blt (ts.length + new.length) 1000000) (ob (ob (hget (hset h id1 (.cells cs)) b) fun k => onCells k fun q => ltake (Nat.mul ts.length 5) (ldrop 0 q)) _)))) = _
      rw [hz, hone, hro_high (by rw [hset_lo]; exact hblo), show Nat.blt (ts.length + new.length) 1000000 = true by rw [Nat.blt_eq]; exact hlen, hgb]
      show ob (ltake (ts.length * 5) (ldrop 0 os)) _ = _
      rw [ldrop_eq, List.drop_zero, ltake_eq (by omega), List.take_of_length_le (by omega)]
      show some (ARes.val _ (hset _ _ (.cells (lapp os cs))) _) = _
      rw [lapp_eq]; rfl
    · have := OutTB.row (B := B) (nx0 := nx0) (m := m) (h := hset (hdel (hset h id1 (.cells cs)) b) id2 (.cells (os ++ cs))) (nx := nx + 1) (σ := σ) (ts ++ new) id2 (os ++ cs) (by rw [hget_set, if_pos rfl]) hs2 (by omega) (by omega)
        (by rw [hset_lo, hdel_lo, hset_lo]; omega) (by omega) (rds_app hv hl hvs (by omega)) (by simp; omega)
      simpa using this
theorem outT_app {m nx0 : Nat} {h0 : Heap} {σ0 : Sto} {h : Heap} {nx nxE id1 id2 : Nat} {σ : Sto} {ts : List Tm} {out : AV} {t : Tm} {cs : List AV} (o : OutT nx0 m h nxE σ ts out) (L : Later h0 nx0 m σ0 h nx σ) (hv : RdT σ t cs) (hlen : ts.length + 1 < 1000000)
    (h1 : nxE ≤ id1) (h2 : id1 < id2) (h3 : id2 ≤ nx) (hs1 : σ id1 = none) (hs2 : σ id2 = none) (h0E : nx0 ≤ nxE) (hm0 : Mem h0 nx0 m σ0) :
    ∃ out' h', appV 5 (hset h id1 (.cells cs)) id2 nx out (.slice id1 0 1 (some 1) 5) = some (.val out' h' (nx + 1)) ∧ Later h0 nx0 m σ0 h' (nx + 1) σ ∧ OutT nx0 m h' (nx + 1) σ (ts ++ [t]) out' ∧ (∃ b, out' = .slice b 0 (ts.length + 1) none 5 ∧ nxE ≤ b) ∧ (∀ k, k < nxE → (∀ b o n c z, out = .slice b o n c z → k ≠ b) → hget h' k = hget h k) :=
  outTB_app (new := [t]) o L (rds_one hv).1 (rds_one hv).2 (rdt_one hv) (by simp) (by simp) hlen h1 h2 h3 hs1 hs2 h0E hm0
end Go.Proofs.YtaajedkbaahgfaaGreatDoor

/-
What the functions of the law answer: shown, the walk.
-/
namespace Go.Proofs.YtaajedkbaahgfaaGreatDoor
open Go Go.AE Go.EV
set_option maxRecDepth 100000
set_option maxHeartbeats 2000000
theorem Later.turn {h h' : Heap} {nx nx' m : Nat} {σ σ' : Sto} (L : Later h nx m σ h' nx' σ') (x : Blk) : Later h nx m σ (hset h' m x) nx' σ' :=
  ⟨L.mem.write L.mem.mn, L.le, fun b hb hm => by rw [hget_set, if_neg hm]; exact L.old b hb hm, by rw [hset_lo]; exact L.lo, L.sle, L.sold⟩
theorem sub_one (a : Nat) (h : a + 1 < 9223372036854775808) : wrapF .i64 (subI ((a + 1 : Nat) : Int) 1) = (a : Int) := by
  have e : subI ((a + 1 : Nat) : Int) 1 = (a : Int) := by
    rw [subI_eq]; omega
  rw [e]
  show sel (Nat.blt a (top .i64)) (Int.ofNat a) (IntKind.wrap .i64 (Int.ofNat a)) = (a : Int)
  have : Nat.blt a (top .i64) = true := by
    rw [Nat.blt_eq]
    show a < 9223372036854775808
    omega
  rw [this]; rfl
theorem sub_zero : wrapF .i64 (subI ((0 : Nat) : Int) 1) = -1 := by kernel_rfl
/-- what 'shown' comes to -/
def ShAns (lb : Nat) (h : Heap) (nx : Nat) (σ : Sto) (left : Nat) (g : Nat → Nat → Option CRes) (r : Option (Tm × Nat)) : Prop := match r with
  | some (t, l) => ∃ h' nx' σ' cs, Later h nx lb σ h' nx' σ' ∧ hget h' lb = some (.cells [.int .i64 (l : Int)]) ∧ Ev g (.ret (.agg cs) h' nx') ∧ RdT σ' t cs ∧ l < left
  | none => ∃ h' nx' σ', Later h nx lb σ h' nx' σ' ∧ Ev g (.pan (ended 9) h' nx')
def ShOk (v : Vl) : Prop := ∀ (h : Heap) (nx lb : Nat) (σ : Sto) (left : Nat) (cells : List AV) (pb po : Nat), Mem h nx lb σ → hget h lb = some (.cells [.int .i64 (left : Int)]) → h.lo ≤ lb → left ≤ 20000 → RdV σ v cells →
  ShAns lb h nx σ left (fun n d => CN n d 16 [.ptr pb po, .agg cells, .ptr lb 0] h nx) (shV v left)
theorem Mem.none {h : Heap} {nx m : Nat} {σ : Sto} (hm : Mem h nx m σ) {k : Nat} (hk : nx ≤ k) : σ k = none := by
  cases hq : σ k with
  | none => rfl
  | some y => have := hm.dom _ _ hq; omega
/-- what the rest of the loop comes to: 'ts' are shown already -/
def ShLoop (lb : Nat) (h0 : Heap) (nx0 : Nat) (σ0 : Sto) (v : Vl) (ts : List Tm) (left : Nat) (g : Nat → Nat → Option CRes) (r : Option (List Tm × Nat)) : Prop := match r with
  | some (ws, l) => ∃ h' nx' σ' cs, Later h0 nx0 lb σ0 h' nx' σ' ∧ hget h' lb = some (.cells [.int .i64 (l : Int)]) ∧ Ev g (.ret (.agg cs) h' nx') ∧ RdT σ' (.mk v.kind v.pkg v.name v.n (ts ++ ws)) cs ∧ l ≤ left
  | none => ∃ h' nx' σ', Later h0 nx0 lb σ0 h' nx' σ' ∧ Ev g (.pan (ended 9) h' nx')
theorem sh_loop {h0 : Heap} {nx0 lb : Nat} {σ0 : Sto} (hm0 : Mem h0 nx0 lb σ0) (hlb : h0.lo ≤ lb) (v : Vl) (ks : AV) (pb po tb rb : Nat) (htr : tb ≠ rb) (ht0 : nx0 ≤ tb) (hr0 : nx0 ≤ rb) : ∀ (vs : List Vl) (i left : Nat) (ts : List Tm) (out : AV) (h : Heap) (nx : Nat) (σ : Sto) (j : Nat) (f : Nat → Option AV),
    (∀ w ∈ vs, ShOk w) → v.kids.drop i = vs → RdVs σ v.kids ks → Later h0 nx0 lb σ0 h nx σ → hget h lb = some (.cells [.int .i64 (left : Int)]) → ts.length + left ≤ 20000 → OutT nx0 lb h nx σ ts out →
    (∀ b o n c z, out = .slice b o n c z → b ≠ tb ∧ b ≠ rb) → tb < nx → rb < nx → σ tb = none → σ rb = none → hget h tb = some (.cells [.int .i64 v.kind, .str v.pkg.1 v.pkg.2, .str v.name.1 v.name.2, .int .i64 v.n, out]) → hget h rb = some (.cells zt) →
    f 0 = some (.ptr pb po) → f 2 = some (.ptr lb 0) → f 6 = some (.ptr rb 0) → f 7 = some (.ptr tb 0) → f 31 = some ks → f 32 = some (.int .i64 (v.kids.length : Int)) → f 33 = some (.int .i64 (i : Int)) →
    ShLoop lb h0 nx0 σ0 v ts left (fun n d => kLoop (R16_12 n (CN n d)) (n - j) (.fn f) [] h nx (kLeave 0 (kThen (R16_8 n (CN n d)) (E16 n (CN n d))))) (shL vs left) := by
  intro vs
  have hml0 := hm0.mlt
  have hlo0 := hm0.lo
  induction vs with
  | nil =>
    intro i left ts out h nx σ j f _ hts hks L hcnt hb20 ho hob htn hrn hst hsr hgt hgr f0 f2 f6 f7 f31 f32 f33
    have hge : ¬ i < v.kids.length := by have := congrArg List.length hts; simp at this; omega
    have hlt : ltI (i : Int) (v.kids.length : Int) = false := by rw [ltI_nat]; simpa using hge
    -- the list is spoken of
    obtain ⟨σ1, hle1, L1, hk1, hsr1⟩ : ∃ σ1, Sto.le σ σ1 ∧ Later h0 nx0 lb σ0 h nx σ1 ∧ RdKs σ1 ts out ∧ σ1 rb = none := by
      cases ho with
      | nil => exact ⟨σ, fun _ _ h => h, L, .nil, hsr⟩
      | row ts b cs hg hs h0 hb hlo hm hv hl =>
        refine ⟨sput σ b (.cells cs), sput_le hs, L.speak hg h0 hb hs hm, .row ts b 0 none cs (sput_self _ _ _) (by omega) (hv.mono (sput_le hs)), ?_⟩
        unfold sput; rw [if_neg (fun e => (hob _ _ _ _ _ rfl).2 e.symm)]; exact hsr
    have hone : allOne [.int .i64 v.kind, .str v.pkg.1 v.pkg.2, .str v.name.1 v.name.2, .int .i64 v.n, out] = true := by
      rcases rdks_one hk1 with rfl | ⟨_, _, _, _, _, rfl⟩ <;> rfl
    have hput : putCells h rb 0 5 [.int .i64 v.kind, .str v.pkg.1 v.pkg.2, .str v.name.1 v.name.2, .int .i64 v.n, out] = some (hset h rb (.cells [.int .i64 v.kind, .str v.pkg.1 v.pkg.2, .str v.name.1 v.name.2, .int .i64 v.n, out])) :=
      putCells_ok' rfl hone (hro_high (by rw [L.lo]; omega)) hgr rfl
    have hg5 : hget (hset h rb (.cells [.int .i64 v.kind, .str v.pkg.1 v.pkg.2, .str v.name.1 v.name.2, .int .i64 v.n, out])) rb = some (.cells [.int .i64 v.kind, .str v.pkg.1 v.pkg.2, .str v.name.1 v.name.2, .int .i64 v.n, out]) := by rw [hget_set, if_pos rfl]
    have hrun5 : (pkAgg 5).run [.int .i64 v.kind, .str v.pkg.1 v.pkg.2, .str v.name.1 v.name.2, .int .i64 v.n, out] 0 = some (.agg [.int .i64 v.kind, .str v.pkg.1 v.pkg.2, .str v.name.1 v.name.2, .int .i64 v.n, out]) := rfl
    refine ⟨hset h rb (.cells [.int .i64 v.kind, .str v.pkg.1 v.pkg.2, .str v.name.1 v.name.2, .int .i64 v.n, out]), nx, σ1, _, L1.write _ hr0 hsr1, by rw [hget_set, if_neg (by omega)]; exact hcnt, ?_, .mk v.kind v.pkg v.name v.n (ts ++ []) out (by rw [List.append_nil]; exact hk1), Nat.le_refl _⟩
    refine Ev.round (B := fun n d => R16_12 n (CN n d)) (tm := fun _ _ => .fn f) (K := fun n d => kLeave 0 (kThen (R16_8 n (CN n d)) (E16 n (CN n d)))) ?_
    refine Ev.pure fun n d => ?_
    repeat (first | simp -eta only [SY, ↓reduceIte, Nat.reduceEqDiff, Nat.reduceAdd, f0, f2, f6, f7, f31, f32, f33, hlt, r_loadB _ _ hgt, hput, r_loadB _ _ hg5, hrun5] | simp -eta only [KY, ↓reduceIte, Nat.reduceEqDiff, R16_12_eq, R16_8_eq, E16_ret])
  | cons w vs ih =>
    intro i left ts out h nx σ j f hok hts hks L hcnt hb20 ho hob htn hrn hst hsr hgt hgr f0 f2 f6 f7 f31 f32 f33
    have hml := L.mem.mlt
    have hi := drop_lt hts
    have hlt : ltI (i : Int) (v.kids.length : Int) = true := by rw [ltI_nat]; simpa using hi
    obtain ⟨wb, wo, wcap, wcs, hkse, hwb, hwv, hwlt, hbig⟩ := rdvs_at hks hts
    have ix : idx 7 ks (.int .i64 (i : Int)) = some (.ptr wb (wo + i * 7)) := by rw [hkse]; exact (r_idx 7 wb wo _ 7 wcap .i64 i).trans (by rw [hwlt]; rfl)
    have hgw := L.mem.sat wb _ hwb
    have hrun7 : (pkAgg 7).run wcs (wo + i * 7) = some (.agg ((wcs.drop (wo + i * 7)).take 7)) := pkAgg_run rfl (rdv_len hwv)
    generalize hwc : (wcs.drop (wo + i * 7)).take 7 = wc at hrun7 hwv
    have hz := zput (h := h) (id := nx) (l0 := zc) (rdv_len hwv) (rdv_one hwv) L.mem.lo rfl
    have La := (L.mem.alloc (id := nx) (nx' := nx + 1) (x := .cells zc) (Nat.le_refl _) (Nat.lt_succ_self _)).write (.cells wc) (Nat.le_refl _) (L.mem.none (Nat.le_refl _))
    have hgn : hget (hset (hset h nx (.cells zc)) nx (.cells wc)) nx = some (.cells wc) := by rw [hget_set, if_pos rfl]
    generalize hh2 : hset (hset h nx (.cells zc)) nx (.cells wc) = h2 at hz La hgn
    have hf2 : ∀ k, k < nx → hget h2 k = hget h k := fun k hk => by rw [← hh2, hget_set, if_neg (by omega), hget_set, if_neg (by omega)]
    have hval : (pkAgg 7).run wc 0 = some (.agg wc) := pkAgg_run (by rw [List.drop_zero, List.take_of_length_le (by rw [rdv_len hwv]; omega)]) (rdv_len hwv)
    have Lb := La.trans (La.mem.more (nx' := nx + 1 + 10) (by omega))
    have hcall := hok w (List.mem_cons_self) h2 (nx + 1 + 10) lb σ left wc pb po Lb.mem ((hf2 lb hml).trans hcnt) (by rw [Lb.lo, L.lo]; exact hlb) (by omega) hwv
    have hgt2 := (hf2 tb htn).trans hgt
    unfold shL
    cases hsh : shV w left with
    | none =>
      rw [hsh] at hcall
      obtain ⟨h3, n3, σ3, L3, hrun⟩ := hcall
      refine ⟨h3, n3, σ3, (L.trans Lb).trans L3, ?_⟩
      refine Ev.round (B := fun n d => R16_12 n (CN n d)) (tm := fun _ _ => .fn f) (K := fun n d => kLeave 0 (kThen (R16_8 n (CN n d)) (E16 n (CN n d)))) ?_
      repeat (first | simp -eta only [SY, ↓reduceIte, Nat.reduceEqDiff, Nat.reduceAdd, f0, f2, f6, f7, f31, f32, f33, hlt, ix, r_loadB _ _ hgw, hrun7, hz, r_loadB _ _ hgn, hval] | simp -eta only [KY, ↓reduceIte, Nat.reduceEqDiff, R16_12_eq])
      refine Ev.callPan hrun ?_
      refine Ev.pure fun n d => ?_
      repeat (first | simp -eta only [SY, ↓reduceIte, Nat.reduceEqDiff, Nat.reduceAdd, f7, r_loadB _ _ hgt2] | simp -eta only [KY, ↓reduceIte, Nat.reduceEqDiff, E16_pan])
    | some tl =>
      obtain ⟨t, l⟩ := tl
      rw [hsh] at hcall
      obtain ⟨h3, n3, σ3, cs3, L3, hcnt3, hrun, hrt, hll⟩ := hcall
      have hle3 := L3.le
      have hgt3 := (L3.old tb (by omega) (by omega)).trans hgt2
      have Lc := (L.trans Lb).trans L3
      have ho3 := (ho.later (Nat.le_refl _) Lb).later (by omega) L3
      have hs3 : ∀ k, nx ≤ k → k < nx + 1 + 10 → σ3 k = none := fun k h1 h2 => (L3.sold k h2).trans (L.mem.none h1)
      obtain ⟨out', h4, happ, L4, ho4, ⟨ob', hoe, hobn⟩, hold4⟩ := outT_app (id1 := nx + 1 + 6) (id2 := nx + 1 + 7) ho3 Lc hrt (by omega) (by omega) (by omega) (by omega) (hs3 _ (by omega) (by omega)) (hs3 _ (by omega) (by omega)) L.le hm0
      have hrow : rowR (nx + 1 + 6) zt 1 5 [(0, 5, .agg cs3)] = some (.slice (nx + 1 + 6) 0 1 (some 1) 5, .cells cs3) := by
        match cs3, rdt_len hrt with
        | [_, _, _, _, _], _ => rfl
      have hgt4 := (hold4 tb htn (fun b o n c z e => ((hob b o n c z e).1).symm)).trans hgt3
      have hgr4 := (hold4 rb hrn (fun b o n c z e => ((hob b o n c z e).2).symm)).trans ((L3.old rb (by omega) (by omega)).trans ((hf2 rb hrn).trans hgr))
      have hput : putCells h4 tb 4 1 [out'] = some (hset h4 tb (.cells [.int .i64 v.kind, .str v.pkg.1 v.pkg.2, .str v.name.1 v.name.2, .int .i64 v.n, out'])) := by
        rw [hoe]
        exact putCells_ok' rfl rfl (hro_high (by rw [L4.lo]; omega)) hgt4 rfl
      have hcellsO : cellsA out' = [out'] := by rw [hoe]; rfl
      have hst3 : σ3 tb = none := (L3.sold tb (by omega)).trans hst
      have hsr3 : σ3 rb = none := (L3.sold rb (by omega)).trans hsr
      have L5 := L4.write (.cells [.int .i64 v.kind, .str v.pkg.1 v.pkg.2, .str v.name.1 v.name.2, .int .i64 v.n, out']) ht0 hst3
      have ho5 := ho4.write (id := tb) (x := .cells [.int .i64 v.kind, .str v.pkg.1 v.pkg.2, .str v.name.1 v.name.2, .int .i64 v.n, out']) (fun b o n c z e => by rw [hoe] at e; injection e with e1; omega)
      have hcnt5 : hget (hset h4 tb (.cells [.int .i64 v.kind, .str v.pkg.1 v.pkg.2, .str v.name.1 v.name.2, .int .i64 v.n, out'])) lb = some (.cells [.int .i64 (l : Int)]) := by
        rw [hget_set, if_neg (by omega), hold4 lb hml ?_]
        · exact hcnt3
        · intro b o n c z e
          cases ho with
          | nil => cases e
          | row _ b' _ _ _ _ _ _ hm _ _ => injection e with e1; subst e1; exact fun h => hm h.symm
      have hinc := inc_small hi (by omega)
      have hih := ih (i + 1) l (ts ++ [t]) out' _ (n3 + 1) σ3 (j + 1) (tmL f [(33, .int .i64 ((i + 1 : Nat) : Int)), (9, .ptr nx 0), (34, .bool true)])
        (fun q hq => hok q (List.mem_cons_of_mem _ hq)) (drop_tail hts) (hks.mono (Lb.trans L3).sle) L5 hcnt5 (by simp; omega) ho5 (fun b o n c z e => by rw [hoe] at e; injection e with e1; omega) (by omega) (by omega) hst3 hsr3
        (by rw [hget_set, if_pos rfl]) (by rw [hget_set, if_neg (fun e => htr e.symm)]; exact hgr4)
        f0 f2 f6 f7 f31 f32 rfl
      have hrunAll : ∀ c, Ev (fun n d => kLoop (R16_12 n (CN n d)) (n - (j + 1)) (.fn (tmL f [(33, .int .i64 ((i + 1 : Nat) : Int)), (9, .ptr nx 0), (34, .bool true)])) [] (hset h4 tb (.cells [.int .i64 v.kind, .str v.pkg.1 v.pkg.2, .str v.name.1 v.name.2, .int .i64 v.n, out'])) (n3 + 1) (kLeave 0 (kThen (R16_8 n (CN n d)) (E16 n (CN n d))))) c →
          Ev (fun n d => kLoop (R16_12 n (CN n d)) (n - j) (.fn f) [] h nx (kLeave 0 (kThen (R16_8 n (CN n d)) (E16 n (CN n d))))) c := by
        intro c hc
        refine Ev.round (B := fun n d => R16_12 n (CN n d)) (tm := fun _ _ => .fn f) (K := fun n d => kLeave 0 (kThen (R16_8 n (CN n d)) (E16 n (CN n d)))) ?_
        repeat (first | simp -eta only [SY, ↓reduceIte, Nat.reduceEqDiff, Nat.reduceAdd, f0, f2, f6, f7, f31, f32, f33, hlt, ix, r_loadB _ _ hgw, hrun7, hz, r_loadB _ _ hgn, hval] | simp -eta only [KY, ↓reduceIte, Nat.reduceEqDiff, R16_12_eq])
        refine Ev.call hrun ?_
        repeat (first | simp -eta only [SY, ↓reduceIte, Nat.reduceEqDiff, Nat.reduceAdd, f7, f33, r_loadB _ _ hgt2, r_loadB _ _ hgt3, hrow, happ, hcellsO, hput, hinc] | simp -eta only [KY, ↓reduceIte, Nat.reduceEqDiff])
        exact hc
      simp only
      cases hsl : shL vs l with
      | none =>
        rw [hsl] at hih
        obtain ⟨h6, n6, σ6, L6, hr6⟩ := hih
        exact ⟨h6, n6, σ6, L6, hrunAll _ hr6⟩
      | some tl =>
        obtain ⟨ws, l2⟩ := tl
        rw [hsl] at hih
        obtain ⟨h6, n6, σ6, cs6, L6, hc6, hr6, ht6, hl6⟩ := hih
        refine ⟨h6, n6, σ6, cs6, L6, hc6, hrunAll _ hr6, ?_, by omega⟩
        rw [List.append_assoc] at ht6
        exact ht6
end Go.Proofs.YtaajedkbaahgfaaGreatDoor

/-
What the functions of the law answer: shown.
-/
namespace Go.Proofs.YtaajedkbaahgfaaGreatDoor
open Go Go.AE Go.EV
set_option maxRecDepth 100000
set_option maxHeartbeats 2000000
theorem sh_ok (v : Vl) : ShOk v := by
  refine Vl.rec (motive_1 := ShOk) (motive_2 := fun _ => True) (motive_3 := fun vs => ∀ v ∈ vs, ShOk v) (motive_4 := fun _ => True) ?_ (fun _ _ _ _ => trivial) (fun t h => nomatch h) (fun t ts ht hts q hq => ?_) trivial (fun _ _ _ _ => trivial) v
  · intro k pk s nn kids c env ih _ h nx lb σ left cells pb po hm hcnt hlb hl20 hv
    generalize hve : Vl.mk k pk s nn kids c env = v at hv ⊢
    have hkids : v.kids = kids := by rw [← hve]; rfl
    have hml := hm.mlt
    have hlo := hm.lo
    -- the value's cells, and the result's
    have hbox : boxR nx (.agg cells) = some (.ptr nx 0, .cells cells) := by
      show gd (Nat.blt 0 (llen cells)) _ = _
      rw [llen_eq, rdv_len hv]; rfl
    have L1 := hm.make (id := nx) (nx' := nx + 1) (.cells cells) (Nat.le_refl _) (Nat.lt_succ_self _)
    have L2 := L1.trans (L1.mem.alloc (id := nx + 1) (nx' := nx + 1 + 1) (x := .cells zt) (Nat.le_refl _) (Nat.lt_succ_self _))
    have hg2 : hget (hset (hset h nx (.cells cells)) (nx + 1) (.cells zt)) lb = some (.cells [.int .i64 (left : Int)]) := by rw [hget_set, if_neg (by omega), hget_set, if_neg (by omega)]; exact hcnt
    have hr2 : hget (hset (hset h nx (.cells cells)) (nx + 1) (.cells zt)) (nx + 1) = some (.cells zt) := by rw [hget_set, if_pos rfl]
    have hs2 : sput σ nx (.cells cells) (nx + 1) = none := L1.mem.none (Nat.le_refl _)
    generalize hh2 : hset (hset h nx (.cells cells)) (nx + 1) (.cells zt) = h2 at L2 hg2 hr2
    obtain ⟨vks, cv, ev, hl, hvk, hvc, hve', hne⟩ := rdv_inv hv
    have l0 : cells[0]? = some (.int .i64 v.kind) := by rw [hl]; rfl
    have l1 : cells[1]? = some (.str v.pkg.1 v.pkg.2) := by rw [hl]; rfl
    have l2 : cells[2]? = some (.str v.name.1 v.name.2) := by rw [hl]; rfl
    have l3 : cells[3]? = some (.int .i64 v.n) := by rw [hl]; rfl
    have l4 : cells[4]? = some vks := by rw [hl]; rfl
    cases left with
    | zero =>
      have hsh : shV v 0 = none := by rw [← hve]; rfl
      rw [hsh]
      have hput : putCells h2 lb 0 1 [.int .i64 (-1)] = some (hset h2 lb (.cells [.int .i64 (-1)])) := putCells_ok' rfl rfl (hro_high (by rw [L2.lo]; omega)) hg2 rfl
      have hg3 : hget (hset h2 lb (.cells [.int .i64 (-1)])) lb = some (.cells [.int .i64 (-1)]) := by rw [hget_set, if_pos rfl]
      have hsub : wrapF .i64 (subI 0 1) = -1 := sub_zero
      have hlt : ltI (-1) 0 = true := rfl
      have hc0 : ([.int .i64 ((0 : Nat) : Int)] : List AV)[0]? = some (.int .i64 0) := rfl
      refine ⟨_, nx + 1 + 1, _, L2.turn (.cells [.int .i64 (-1)]), ?_⟩
      refine Rn.of (f := 16) (l := [.ptr pb po, .agg cells, .ptr lb 0]) (g := fun n d => F16 n (CN n d) pb po (.agg cells) lb 0 h nx) (fun n d => F16_eq sp16 n (CN n d) pb po (.agg cells) lb 0 h nx) (Ev.pure fun n d => ?_)
      show F16 n (CN n d) pb po (.agg cells) lb 0 h nx = _
      unfold F16
      repeat (first | simp -eta only [SY, ↓reduceIte, Nat.reduceEqDiff, Nat.reduceAdd, hbox, hh2, r_loadB _ _ hg2, hc0, hsub, hput, r_loadB _ _ hg3, hlt] | simp -eta only [KY, ↓reduceIte, Nat.reduceEqDiff, R16_0_eq, R16_1_eq, R16_2_eq, R16_3_eq, E16_pan])
    | succ left =>
      have hsh : shV v (left + 1) = (match shL v.kids left with | some (ts, l) => some (.mk v.kind v.pkg v.name v.n ts, l) | none => none) := by rw [← hve]; rfl
      rw [hsh]
      have hput : putCells h2 lb 0 1 [.int .i64 (left : Int)] = some (hset h2 lb (.cells [.int .i64 (left : Int)])) := putCells_ok' rfl rfl (hro_high (by rw [L2.lo]; omega)) hg2 rfl
      have hsub := sub_one left (by omega)
      have hlt : ltI (left : Int) 0 = false := by rw [show (0 : Int) = ((0 : Nat) : Int) from rfl, ltI_nat]; simp
      have L3 := L2.turn (.cells [.int .i64 (left : Int)])
      have hg3 : hget (hset h2 lb (.cells [.int .i64 (left : Int)])) lb = some (.cells [.int .i64 (left : Int)]) := by rw [hget_set, if_pos rfl]
      have hr3 : hget (hset h2 lb (.cells [.int .i64 (left : Int)])) (nx + 1) = some (.cells zt) := by rw [hget_set, if_neg (by omega)]; exact hr2
      generalize hh3 : hset h2 lb (.cells [.int .i64 (left : Int)]) = h3 at hput L3 hg3 hr3
      have hgv := L3.mem.sat nx _ (sput_self _ _ _)
      have hbld : bld zt [(0, 1, .int .i64 v.kind), (1, 1, .str v.pkg.1 v.pkg.2), (2, 1, .str v.name.1 v.name.2), (3, 1, .int .i64 v.n)] = some (.agg [.int .i64 v.kind, .str v.pkg.1 v.pkg.2, .str v.name.1 v.name.2, .int .i64 v.n, .nilslice]) := rfl
      have hz5 : putCells (hset h3 (nx + 1 + 1) (.cells zt)) (nx + 1 + 1) 0 5 [.int .i64 v.kind, .str v.pkg.1 v.pkg.2, .str v.name.1 v.name.2, .int .i64 v.n, .nilslice] = some (hset (hset h3 (nx + 1 + 1) (.cells zt)) (nx + 1 + 1) (.cells [.int .i64 v.kind, .str v.pkg.1 v.pkg.2, .str v.name.1 v.name.2, .int .i64 v.n, .nilslice])) :=
        putCells_ok' rfl rfl (hro_high (by rw [hset_lo, L3.lo]; omega)) (by rw [hget_set, if_pos rfl]) rfl
      have L4 := L3.trans ((L3.mem.alloc (id := nx + 1 + 1) (nx' := nx + 1 + 1 + 1) (x := .cells zt) (Nat.le_refl _) (Nat.lt_succ_self _)).write (.cells [.int .i64 v.kind, .str v.pkg.1 v.pkg.2, .str v.name.1 v.name.2, .int .i64 v.n, .nilslice]) (Nat.le_refl _) (L3.mem.none (Nat.le_refl _)))
      have ht4 : hget (hset (hset h3 (nx + 1 + 1) (.cells zt)) (nx + 1 + 1) (.cells [.int .i64 v.kind, .str v.pkg.1 v.pkg.2, .str v.name.1 v.name.2, .int .i64 v.n, .nilslice])) (nx + 1 + 1) = some (.cells [.int .i64 v.kind, .str v.pkg.1 v.pkg.2, .str v.name.1 v.name.2, .int .i64 v.n, .nilslice]) := by rw [hget_set, if_pos rfl]
      have hg4 : ∀ k, k < nx + 1 + 1 → hget (hset (hset h3 (nx + 1 + 1) (.cells zt)) (nx + 1 + 1) (.cells [.int .i64 v.kind, .str v.pkg.1 v.pkg.2, .str v.name.1 v.name.2, .int .i64 v.n, .nilslice])) k = hget h3 k := fun k hk => by rw [hget_set, if_neg (by omega), hget_set, if_neg (by omega)]
      generalize hh4 : hset (hset h3 (nx + 1 + 1) (.cells zt)) (nx + 1 + 1) (.cells [.int .i64 v.kind, .str v.pkg.1 v.pkg.2, .str v.name.1 v.name.2, .int .i64 v.n, .nilslice]) = h4 at hz5 L4 ht4 hg4
      have hgv4 := L4.mem.sat nx _ (sput_self _ _ _)
      have hlenv := rdvs_len hvk
      have hs4 : sput σ nx (.cells cells) (nx + 1 + 1) = none := L3.mem.none (Nat.le_refl _)
      have hlp := sh_loop hm hlb v vks pb po (nx + 1 + 1) (nx + 1) (by omega) (by omega) (by omega) v.kids 0 left [] .nilslice h4 (nx + 1 + 1 + 1) (sput σ nx (.cells cells)) 0
        (tmL (tmL (tmL (tmL (tmL tm0 [(2, .ptr lb 0), (1, .agg cells), (0, .ptr pb po)]) [(6, .ptr (nx + 1) 0), (4, .ptr nx 0)]) [(18, .bool false)]) [(7, .ptr (nx + 1 + 1) 0)]) [(33, .int .i64 0), (32, .int .i64 (v.kids.length : Int)), (31, vks)])
        (by rw [hkids]; exact ih) rfl (hvk.mono L1.sle) L4 ((hg4 lb (by omega)).trans hg3) (by simp; omega) .nil (fun b o n c z e => by cases e) (by omega) (by omega) hs4 hs2 ht4 ((hg4 (nx + 1) (by omega)).trans hr3)
        rfl rfl rfl rfl rfl rfl rfl
      have hrunAll : ∀ c, Ev (fun n d => kLoop (R16_12 n (CN n d)) (n - 0) (.fn (tmL (tmL (tmL (tmL (tmL tm0 [(2, .ptr lb 0), (1, .agg cells), (0, .ptr pb po)]) [(6, .ptr (nx + 1) 0), (4, .ptr nx 0)]) [(18, .bool false)]) [(7, .ptr (nx + 1 + 1) 0)]) [(33, .int .i64 0), (32, .int .i64 (v.kids.length : Int)), (31, vks)])) [] h4 (nx + 1 + 1 + 1) (kLeave 0 (kThen (R16_8 n (CN n d)) (E16 n (CN n d))))) c →
          Ev (fun n d => CN n d 16 [.ptr pb po, .agg cells, .ptr lb 0] h nx) c := by
        intro c hc
        refine Rn.of (f := 16) (l := [.ptr pb po, .agg cells, .ptr lb 0]) (g := fun n d => F16 n (CN n d) pb po (.agg cells) lb 0 h nx) (fun n d => F16_eq sp16 n (CN n d) pb po (.agg cells) lb 0 h nx) ?_
        unfold F16
        repeat (first | simp -eta only [SY, ↓reduceIte, Nat.reduceEqDiff, Nat.reduceAdd, hbox, hh2, r_loadB _ _ hg2, hsub, hput, r_loadB _ _ hg3, hlt, r_loadB _ _ hgv, l0, l1, l2, l3, hbld, hz5, r_loadB _ _ hgv4, l4, hlenv] | simp -eta only [KY, ↓reduceIte, Nat.reduceEqDiff, R16_0_eq, R16_1_eq, R16_2_eq, R16_3_eq, R16_4_eq, R16_5_eq, R16_6_eq, R16_7_eq, R16_9_eq, R16_10_eq, R16_11_eq])
        exact Ev.loop (B := fun n d => R16_12 n (CN n d)) (tm := fun _ _ => .fn _) hc
      cases hsl : shL v.kids left with
      | none =>
        rw [hsl] at hlp
        obtain ⟨h6, n6, σ6, L6, hr6⟩ := hlp
        exact ⟨h6, n6, σ6, L6, hrunAll _ hr6⟩
      | some tl =>
        obtain ⟨ws, l2⟩ := tl
        rw [hsl] at hlp
        obtain ⟨h6, n6, σ6, cs6, L6, hc6, hr6, ht6, hl6⟩ := hlp
        exact ⟨h6, n6, σ6, cs6, L6, hc6, hrunAll _ hr6, ht6, by omega⟩
  · cases hq with
    | head => exact ht
    | tail _ hq => exact hts q hq
end Go.Proofs.YtaajedkbaahgfaaGreatDoor

/-
Residual of function 9
-/
namespace Go.Proofs.YtaajedkbaahgfaaGreatDoor
open Go Go.AE
set_option maxRecDepth 100000
/-! touchstone/touchstoneref07.Same -/
noncomputable def C9 : Code := Tryz.f9.body.getD .skip
noncomputable def E9 (n : Nat) (call : CallF) : KX CRes := kEnd Tryz.prog true locOfF n call (mapL (rsVar Tryz.prog 6) Tryz.f9.results.toList)
noncomputable def R9_0 (n : Nat) (call : CallF) : TM → Defs → Heap → Nat → KX CRes → Option CRes := kCode (β := CRes) Tryz.prog 60 6 576424468419706816 C9 n call
noncomputable def R9_1 (n : Nat) (call : CallF) : TM → Defs → Heap → Nat → KX CRes → Option CRes := kCode (β := CRes) Tryz.prog 60 6 576424468419706816 (cL C9) n call
noncomputable def R9_2 (n : Nat) (call : CallF) : TM → Defs → Heap → Nat → KX CRes → Option CRes := kCode (β := CRes) Tryz.prog 60 6 576424468419706816 (cR C9) n call
noncomputable def R9_3 (n : Nat) (call : CallF) : TM → Defs → Heap → Nat → KX CRes → Option CRes := kCode (β := CRes) Tryz.prog 60 6 576424468419706816 (cL (cR C9)) n call
noncomputable def R9_4 (n : Nat) (call : CallF) : TM → Defs → Heap → Nat → KX CRes → Option CRes := kCode (β := CRes) Tryz.prog 60 6 576424468419706816 (cR (cR C9)) n call
noncomputable def R9_5 (n : Nat) (call : CallF) : TM → Defs → Heap → Nat → KX CRes → Option CRes := kCode (β := CRes) Tryz.prog 60 6 576424468419706816 (cL (cR (cR C9))) n call
noncomputable def R9_6 (n : Nat) (call : CallF) : TM → Defs → Heap → Nat → KX CRes → Option CRes := kCode (β := CRes) Tryz.prog 60 6 576424468419706816 (cR (cR (cR C9))) n call
noncomputable def R9_7 (n : Nat) (call : CallF) : TM → Defs → Heap → Nat → KX CRes → Option CRes := kCode (β := CRes) Tryz.prog 60 6 576424468419706816 (cL (cL (cR (cR C9)))) n call
noncomputable def R9_8 (n : Nat) (call : CallF) : TM → Defs → Heap → Nat → KX CRes → Option CRes := kCode (β := CRes) Tryz.prog 60 6 576424468419706816 (cR (cL (cR (cR C9)))) n call
noncomputable def R9_9 (n : Nat) (call : CallF) : TM → Defs → Heap → Nat → KX CRes → Option CRes := kCode (β := CRes) Tryz.prog 60 6 576424468419706816 (cL (cR (cL (cR (cR C9))))) n call
noncomputable def R9_10 (n : Nat) (call : CallF) : TM → Defs → Heap → Nat → KX CRes → Option CRes := kCode (β := CRes) Tryz.prog 60 6 576424468419706816 (cL (cL (cR (cL (cR (cR C9)))))) n call
noncomputable def F9 (n : Nat) (call : CallF) (a0 : AV) (a1 : AV) (h : Heap) (nx : Nat) : Option CRes :=
  R9_0 n call (.fn (tmL tm0 [(1, a1), (0, a0)])) [] h nx (E9 n call)
theorem F9_eq {sp : Specs} (hsp : sp 9 = none) (n : Nat) (call : CallF) (a0 : AV) (a1 : AV) (h : Heap) (nx : Nat) : callS Tryz.prog true sp locOfF n call 9 [a0, a1] h nx = F9 n call a0 a1 h nx :=
  (call_eq2 Tryz.func9 (c := C9) (N := 60) (dp := 6) (L := 576424468419706816) (tm := (.fn (tmL tm0 [(1, a1), (0, a0)]))) (by kernel_rfl) (by kernel_rfl) (by kernel_rfl) (by kernel_rfl) (by kernel_rfl) (by kernel_rfl) hsp n call h nx).trans (by kernel_rfl)
theorem R9_0_eq (n : Nat) (call : CallF) (f : Nat → Option AV) (df : Defs) (h : Heap) (nx : Nat) (K : KX CRes) : R9_0 n call (.fn f) df h nx K =
  R9_1 n call (.fn f) df h nx (kThen (R9_2 n call) K) :=
  (congrArg (fun c => kCode (β := CRes) Tryz.prog 60 6 576424468419706816 c n call (.fn f) df h nx K) (show C9 = (.seq (cL C9) (cR C9)) by kernel_rfl)).trans (kCode_seq ..)
theorem R9_1_eq (n : Nat) (call : CallF) (f : Nat → Option AV) (df : Defs) (h : Heap) (nx : Nat) (K : KX CRes) : R9_1 n call (.fn f) df h nx K =
  bd (bd (f 0) fun v1 => (boxR nx v1)) fun r2 =>
  letH (hset h nx r2.2) (Nat.succ nx) fun h3 n4 =>
  bd (bd (f 1) fun v5 => (boxR n4 v5)) fun r6 =>
  letH (hset h3 n4 r6.2) (Nat.succ n4) fun h7 n8 =>
  K h7 n8 .normal (.fn (tmL f [(4, (.bool false)), (3, r6.1), (2, r2.1)])) df := by kernel_rfl
theorem R9_2_eq (n : Nat) (call : CallF) (f : Nat → Option AV) (df : Defs) (h : Heap) (nx : Nat) (K : KX CRes) : R9_2 n call (.fn f) df h nx K =
  R9_3 n call (.fn f) df h nx (kThen (R9_4 n call) K) :=
  (congrArg (fun c => kCode (β := CRes) Tryz.prog 60 6 576424468419706816 c n call (.fn f) df h nx K) (show (cR C9) = (.seq (cL (cR C9)) (cR (cR C9))) by kernel_rfl)).trans (kCode_seq ..)
theorem R9_3_eq (n : Nat) (call : CallF) (f : Nat → Option AV) (df : Defs) (h : Heap) (nx : Nat) (K : KX CRes) : R9_3 n call (.fn f) df h nx K =
  bd (bd (f 2) fun v9 => (adr 0 v9)) fun v10 =>
  bd (ld1 h v10) fun v11 =>
  bd (bd (f 3) fun v12 => (adr 0 v12)) fun v13 =>
  bd (ld1 h v13) fun v14 =>
  bd (binV .neq (eqT Tryz.prog 8 3) false (!(Tryz.prog.eqGuardType Tryz.prog.depth 3)) v14 v11) fun v15 =>
  bd (wantV false v15) fun b16 => bd (sl b16 ((bd (f 2) fun v17 => (adr 1 v17))) (some (.tuple []))) fun v18 =>
  bd (wantV false v15) fun b19 => bd (sl b19 ((ld1 h v18)) (some (.tuple []))) fun v20 =>
  bd (wantV false v15) fun b21 => bd (sl b21 ((bd (f 3) fun v22 => (adr 1 v22))) (some (.tuple []))) fun v23 =>
  bd (wantV false v15) fun b24 => bd (sl b24 ((ld1 h v23)) (some (.tuple []))) fun v25 =>
  bd (wantV false v15) fun b26 => bd (sl b26 ((binV .neq (eqT Tryz.prog 8 9) false (!(Tryz.prog.eqGuardType Tryz.prog.depth 9)) v25 v20)) (some (.tuple []))) fun v27 =>
  bd (pickV v15 (.bool true) v27) fun v28 =>
  bd (wantV false v28) fun b29 => bd (sl b29 ((bd (f 2) fun v30 => (adr 2 v30))) (some (.tuple []))) fun v31 =>
  bd (wantV false v28) fun b32 => bd (sl b32 ((ld1 h v31)) (some (.tuple []))) fun v33 =>
  bd (wantV false v28) fun b34 => bd (sl b34 ((bd (f 3) fun v35 => (adr 2 v35))) (some (.tuple []))) fun v36 =>
  bd (wantV false v28) fun b37 => bd (sl b37 ((ld1 h v36)) (some (.tuple []))) fun v38 =>
  bd (wantV false v28) fun b39 => bd (sl b39 ((binV .neq (eqT Tryz.prog 8 9) false (!(Tryz.prog.eqGuardType Tryz.prog.depth 9)) v38 v33)) (some (.tuple []))) fun v40 =>
  bd (pickV v28 (.bool true) v40) fun v41 =>
  bd (wantV false v41) fun b42 => bd (sl b42 ((bd (f 2) fun v43 => (adr 3 v43))) (some (.tuple []))) fun v44 =>
  bd (wantV false v41) fun b45 => bd (sl b45 ((ld1 h v44)) (some (.tuple []))) fun v46 =>
  bd (wantV false v41) fun b47 => bd (sl b47 ((bd (f 3) fun v48 => (adr 3 v48))) (some (.tuple []))) fun v49 =>
  bd (wantV false v41) fun b50 => bd (sl b50 ((ld1 h v49)) (some (.tuple []))) fun v51 =>
  bd (wantV false v41) fun b52 => bd (sl b52 ((binV .neq (eqT Tryz.prog 8 3) false (!(Tryz.prog.eqGuardType Tryz.prog.depth 3)) v51 v46)) (some (.tuple []))) fun v53 =>
  bd (pickV v41 (.bool true) v53) fun v54 =>
  bd (wantV false v54) fun b55 => bd (sl b55 ((bd (f 2) fun v56 => (adr 4 v56))) (some (.tuple []))) fun v57 =>
  bd (wantV false v54) fun b58 => bd (sl b58 ((ld1 h v57)) (some (.tuple []))) fun v59 =>
  bd (wantV false v54) fun b60 => bd (sl b60 ((lenSl v59)) (some (.tuple []))) fun v61 =>
  bd (wantV false v54) fun b62 => bd (sl b62 ((bd (f 3) fun v63 => (adr 4 v63))) (some (.tuple []))) fun v64 =>
  bd (wantV false v54) fun b65 => bd (sl b65 ((ld1 h v64)) (some (.tuple []))) fun v66 =>
  bd (wantV false v54) fun b67 => bd (sl b67 ((lenSl v66)) (some (.tuple []))) fun v68 =>
  bd (wantV false v54) fun b69 => bd (sl b69 ((binV .neq (eqT Tryz.prog 8 3) false (!(Tryz.prog.eqGuardType Tryz.prog.depth 3)) v68 v61)) (some (.tuple []))) fun v70 =>
  bd (pickV v54 (.bool true) v70) fun v71 =>
  onBool v71 fun b72 => sl b72
  (K h nx .ret (.fn (tmL f [(4, (.bool false)), (40, v71)])) df)
  (K h nx .normal (.fn (tmL f [(40, v71)])) df) := by kernel_rfl
theorem R9_4_eq (n : Nat) (call : CallF) (f : Nat → Option AV) (df : Defs) (h : Heap) (nx : Nat) (K : KX CRes) : R9_4 n call (.fn f) df h nx K =
  R9_5 n call (.fn f) df h nx (kThen (R9_6 n call) K) :=
  (congrArg (fun c => kCode (β := CRes) Tryz.prog 60 6 576424468419706816 c n call (.fn f) df h nx K) (show (cR (cR C9)) = (.seq (cL (cR (cR C9))) (cR (cR (cR C9)))) by kernel_rfl)).trans (kCode_seq ..)
theorem R9_5_eq (n : Nat) (call : CallF) (f : Nat → Option AV) (df : Defs) (h : Heap) (nx : Nat) (K : KX CRes) : R9_5 n call (.fn f) df h nx K =
  R9_7 n call (.fn f) df h nx (kThen (R9_8 n call) K) :=
  (congrArg (fun c => kCode (β := CRes) Tryz.prog 60 6 576424468419706816 c n call (.fn f) df h nx K) (show (cL (cR (cR C9))) = (.seq (cL (cL (cR (cR C9)))) (cR (cL (cR (cR C9))))) by kernel_rfl)).trans (kCode_seq ..)
theorem R9_6_eq (n : Nat) (call : CallF) (f : Nat → Option AV) (df : Defs) (h : Heap) (nx : Nat) (K : KX CRes) : R9_6 n call (.fn f) df h nx K =
  K h nx .ret (.fn (tmL f [(4, (.bool true))])) df := by kernel_rfl
theorem R9_7_eq (n : Nat) (call : CallF) (f : Nat → Option AV) (df : Defs) (h : Heap) (nx : Nat) (K : KX CRes) : R9_7 n call (.fn f) df h nx K =
  K h nx .normal (.fn (tmL f [(5, (.int .i64 0))])) df := by kernel_rfl
theorem R9_8_eq (n : Nat) (call : CallF) (f : Nat → Option AV) (df : Defs) (h : Heap) (nx : Nat) (K : KX CRes) : R9_8 n call (.fn f) df h nx K =
  R9_9 n call (.fn f) df h nx (kLeave 0 K) :=
  (congrArg (fun c => kCode (β := CRes) Tryz.prog 60 6 576424468419706816 c n call (.fn f) df h nx K) (show (cR (cL (cR (cR C9)))) = (.block 0 (cL (cR (cL (cR (cR C9)))))) by kernel_rfl)).trans (kCode_block ..)
theorem R9_9_eq (n : Nat) (call : CallF) (f : Nat → Option AV) (df : Defs) (h : Heap) (nx : Nat) (K : KX CRes) : R9_9 n call (.fn f) df h nx K =
  kLoop (R9_10 n call) n (.fn f) df h nx K :=
  (congrArg (fun c => kCode (β := CRes) Tryz.prog 60 6 576424468419706816 c n call (.fn f) df h nx K) (show (cL (cR (cL (cR (cR C9))))) = (.loop (cL (cL (cR (cL (cR (cR C9))))))) by kernel_rfl)).trans (kCode_loop ..)
theorem R9_10_eq (n : Nat) (call : CallF) (f : Nat → Option AV) (df : Defs) (h : Heap) (nx : Nat) (K : KX CRes) : R9_10 n call (.fn f) df h nx K =
  bd (f 5) fun v73 =>
  bd (bd (f 2) fun v74 => (adr 4 v74)) fun v75 =>
  bd (ld1 h v75) fun v76 =>
  bd (lenSl v76) fun v77 =>
  bd (binV .lss (eqT Tryz.prog 8 3) false (!(Tryz.prog.eqGuardType Tryz.prog.depth 3)) v77 v73) fun v78 =>
  onBool v78 fun b79 => sl b79
  (bd (bd ((bd (f 2) fun v80 => (adr 4 v80))) fun v81 => some v81) fun v82 =>
  bd (bd ((ld1 h v82)) fun v83 => some v83) fun v84 =>
  bd (bd ((f 5)) fun v85 => some v85) fun v86 =>
  bd (bd ((idx 5 v84 v86)) fun v87 => some v87) fun v88 =>
  bd (bd ((ldA 5 h v88)) fun v89 => some v89) fun v90 =>
  bd (bd ((bd (f 3) fun v91 => (adr 4 v91))) fun v92 => some v92) fun v93 =>
  bd (bd ((ld1 h v93)) fun v94 => some v94) fun v95 =>
  bd (bd ((f 5)) fun v96 => some v96) fun v97 =>
  bd (bd ((idx 5 v95 v97)) fun v98 => some v98) fun v99 =>
  bd (bd ((ldA 5 h v99)) fun v100 => some v100) fun v101 =>
  bd (clR call 9 [v90, v101] h (nx + 12)) (ares (fun v102 h103 n104 =>
  bd (bd ((unNot v102)) fun v105 => some v105) fun v106 =>
  onBool v106 fun b107 => sl b107
  (K h103 n104 .ret (.fn (tmL f [(4, (.bool false)), (59, v106), (45, v78)])) df)
  (bd (f 5) fun v108 =>
  bd (binV .add (eqT Tryz.prog 8 3) true (!(Tryz.prog.eqGuardType Tryz.prog.depth 3)) (.int .i64 1) v108) fun v109 =>
  K h103 n104 .normal (.fn (tmL f [(5, v109), (59, v106), (45, v78)])) df)) (fun v110 h111 n112 => K h111 n112 (.pan v110) (.tr .nil) df)))
  (K h nx (.exit 0) (.fn (tmL f [(45, v78)])) df) := by kernel_rfl
theorem E9_normal (n : Nat) (call : CallF) (f : Nat → Option AV) (h : Heap) (nx : Nat) : E9 n call h nx .normal (.fn f) [] = retL [(f 4)] h nx := by kernel_rfl
theorem E9_ret (n : Nat) (call : CallF) (f : Nat → Option AV) (h : Heap) (nx : Nat) : E9 n call h nx .ret (.fn f) [] = retL [(f 4)] h nx := by kernel_rfl
theorem E9_pan (n : Nat) (call : CallF) (v : AV) (tm : TM) (h : Heap) (nx : Nat) : E9 n call h nx (.pan v) tm [] = some (.pan v h nx) := by kernel_rfl
end Go.Proofs.YtaajedkbaahgfaaGreatDoor

/-
What the functions of the law answer: Same, of two terms that read the same.
-/
namespace Go.Proofs.YtaajedkbaahgfaaGreatDoor
open Go Go.AE Go.EV
set_option maxRecDepth 100000
set_option maxHeartbeats 2000000
theorem sp9 : spL 9 = none := rfl
def SameOk (t : Tm) : Prop := ∀ (h : Heap) (nx m : Nat) (σ : Sto) (l1 l2 : List AV), Mem h nx m σ → RdT σ t l1 → RdT σ t l2 → ∃ h' nx' σ', Later h nx m σ h' nx' σ' ∧ Rn 9 [.agg l1, .agg l2] h nx (.ret (.bool true) h' nx')
theorem same_loop (t : Tm) (m b1 b2 : Nat) (l1 l2 : List AV) : ∀ (ts : List Tm) (i : Nat) (h : Heap) (nx : Nat) (σ : Sto) (j : Nat) (f : Nat → Option AV),
    (∀ q ∈ ts, SameOk q) → t.kids.drop i = ts → Mem h nx m σ → σ b1 = some (.cells l1) → σ b2 = some (.cells l2) → RdT σ t l1 → RdT σ t l2 →
    f 2 = some (.ptr b1 0) → f 3 = some (.ptr b2 0) → f 5 = some (.int .i64 (i : Int)) →
    ∃ h' nx' σ', Later h nx m σ h' nx' σ' ∧ Ev (fun n d => kLoop (R9_10 n (CN n d)) (n - j) (.fn f) [] h nx (kLeave 0 (kThen (R9_6 n (CN n d)) (E9 n (CN n d))))) (.ret (.bool true) h' nx') := by
  intro ts
  induction ts with
  | nil =>
    intro i h nx σ j f _ hts hm h1 h2 hr1 hr2 f2 f3 f5
    obtain ⟨k1, hl1, hk1⟩ := rdt_inv hr1
    have hlen := rdks_len hk1
    have hge : ¬ i < t.kids.length := by have := congrArg List.length hts; simp at this; omega
    have hlt : ltI (i : Int) (t.kids.length : Int) = false := by rw [ltI_nat]; simpa using hge
    have hg1 := hm.sat b1 _ h1
    have c4 : l1[4]? = some k1 := by rw [hl1]; rfl
    refine ⟨h, nx, σ, Later.refl hm, ?_⟩
    refine Ev.round (B := fun n d => R9_10 n (CN n d)) (tm := fun _ _ => .fn f) (K := fun n d => kLeave 0 (kThen (R9_6 n (CN n d)) (E9 n (CN n d)))) ?_
    refine Ev.pure fun n d => ?_
    repeat (first | simp -eta only [SY, ↓reduceIte, Nat.reduceEqDiff, Nat.reduceAdd, f2, f3, f5, r_loadB _ _ hg1, c4, hlen, hlt] | simp -eta only [KY, ↓reduceIte, Nat.reduceEqDiff, R9_10_eq, R9_6_eq, E9_ret])
  | cons q ts ih =>
    intro i h nx σ j f hok hts hm h1 h2 hr1 hr2 f2 f3 f5
    obtain ⟨k1, hl1, hk1⟩ := rdt_inv hr1
    obtain ⟨k2, hl2, hk2⟩ := rdt_inv hr2
    have hlen := rdks_len hk1
    have hi := drop_lt hts
    have hlt : ltI (i : Int) (t.kids.length : Int) = true := by rw [ltI_nat]; simpa using hi
    have hg1 := hm.sat b1 _ h1
    have hg2 := hm.sat b2 _ h2
    have c4 : l1[4]? = some k1 := by rw [hl1]; rfl
    have d4 : l2[4]? = some k2 := by rw [hl2]; rfl
    obtain ⟨p1, o1, cap1, e1, ⟨cs1, hb1, hq1⟩, hbl, hbig⟩ := rdks_at hk1 hts
    obtain ⟨p2, o2, cap2, e2, ⟨cs2, hb2, hq2⟩, _, _⟩ := rdks_at hk2 hts
    have i1 : idx 5 k1 (.int .i64 (i : Int)) = some (.ptr p1 (o1 + i * 5)) := by rw [e1]; exact (r_idx 5 p1 o1 _ 5 cap1 .i64 i).trans (by rw [hbl]; rfl)
    have i2 : idx 5 k2 (.int .i64 (i : Int)) = some (.ptr p2 (o2 + i * 5)) := by rw [e2]; exact (r_idx 5 p2 o2 _ 5 cap2 .i64 i).trans (by rw [hbl]; rfl)
    have g1 := hm.sat p1 _ hb1
    have g2 := hm.sat p2 _ hb2
    have r1 : (pkAgg 5).run cs1 (o1 + i * 5) = some (.agg ((cs1.drop (o1 + i * 5)).take 5)) := pkAgg_run rfl (rdt_len hq1)
    have r2 : (pkAgg 5).run cs2 (o2 + i * 5) = some (.agg ((cs2.drop (o2 + i * 5)).take 5)) := pkAgg_run rfl (rdt_len hq2)
    have L0 := hm.more (nx' := nx + 12) (by omega)
    obtain ⟨h3, n3, σ3, L3, hrun⟩ := hok q (List.mem_cons_self) h (nx + 12) m σ _ _ L0.mem hq1 hq2
    have L := L0.trans L3
    have hinc := inc_small hi (by omega)
    obtain ⟨h4, n4, σ4, L4, hrun4⟩ := ih (i + 1) h3 n3 σ3 (j + 1) (tmL f [(5, .int .i64 ((i + 1 : Nat) : Int)), (59, .bool false), (45, .bool true)]) (fun q hq => hok q (List.mem_cons_of_mem _ hq)) (drop_tail hts) L.mem (L.sle _ _ h1) (L.sle _ _ h2) (hr1.mono L.sle) (hr2.mono L.sle)
      f2 f3 rfl
    refine ⟨h4, n4, σ4, L.trans L4, ?_⟩
    refine Ev.round (B := fun n d => R9_10 n (CN n d)) (tm := fun _ _ => .fn f) (K := fun n d => kLeave 0 (kThen (R9_6 n (CN n d)) (E9 n (CN n d)))) ?_
    repeat (first | simp -eta only [SY, ↓reduceIte, Nat.reduceEqDiff, Nat.reduceAdd, f2, f3, f5, r_loadB _ _ hg1, r_loadB _ _ hg2, c4, d4, hlen, hlt, i1, i2, r_loadB _ _ g1, r_loadB _ _ g2, r1, r2] | simp -eta only [KY, ↓reduceIte, Nat.reduceEqDiff, R9_10_eq])
    refine Ev.call hrun ?_
    repeat (first | simp -eta only [SY, ↓reduceIte, Nat.reduceEqDiff, Nat.reduceAdd, f5, hinc] | simp -eta only [KY, ↓reduceIte, Nat.reduceEqDiff])
    exact hrun4
theorem same_ok (t : Tm) : SameOk t := by
  refine Tm.rec (motive_1 := SameOk) (motive_2 := fun ps => ∀ t ∈ ps, SameOk t) ?_ (fun t h => nomatch h) (fun t ts ht hts q hq => ?_) t
  · intro k pk s nn kids ih h nx m σ l1 l2 hm hr1 hr2
    generalize hte : Tm.mk k pk s nn kids = t at hr1 hr2
    have hkids : t.kids = kids := by rw [← hte]; rfl
    obtain ⟨k1, hl1, hk1⟩ := rdt_inv hr1
    obtain ⟨k2, hl2, hk2⟩ := rdt_inv hr2
    have hlen1 := rdks_len hk1
    have hlen2 := rdks_len hk2
    have hb1 : boxR nx (.agg l1) = some (.ptr nx 0, .cells l1) := by
      show gd (Nat.blt 0 (llen l1)) _ = _
      rw [llen_eq, rdt_len hr1]; rfl
    have hb2 : boxR (nx + 1) (.agg l2) = some (.ptr (nx + 1) 0, .cells l2) := by
      show gd (Nat.blt 0 (llen l2)) _ = _
      rw [llen_eq, rdt_len hr2]; rfl
    have L1 := hm.make (id := nx) (nx' := nx + 1) (.cells l1) (Nat.le_refl _) (Nat.lt_succ_self _)
    have L2' := L1.mem.make (id := nx + 1) (nx' := nx + 1 + 1) (.cells l2) (Nat.le_refl _) (Nat.lt_succ_self _)
    have L2 := L1.trans L2'
    have s1 : sput (sput σ nx (.cells l1)) (nx + 1) (.cells l2) nx = some (.cells l1) := by unfold sput; rw [if_neg (by omega), if_pos rfl]
    have s2 : sput (sput σ nx (.cells l1)) (nx + 1) (.cells l2) (nx + 1) = some (.cells l2) := sput_self _ _ _
    have g1 := L2.mem.sat _ _ s1
    have g2 := L2.mem.sat _ _ s2
    have a0 : l1[0]? = some (.int .i64 t.kind) := by rw [hl1]; rfl
    have a1 : l1[1]? = some (.str t.pkg.1 t.pkg.2) := by rw [hl1]; rfl
    have a2 : l1[2]? = some (.str t.name.1 t.name.2) := by rw [hl1]; rfl
    have a3 : l1[3]? = some (.int .i64 t.n) := by rw [hl1]; rfl
    have a4 : l1[4]? = some k1 := by rw [hl1]; rfl
    have b0 : l2[0]? = some (.int .i64 t.kind) := by rw [hl2]; rfl
    have b1 : l2[1]? = some (.str t.pkg.1 t.pkg.2) := by rw [hl2]; rfl
    have b2 : l2[2]? = some (.str t.name.1 t.name.2) := by rw [hl2]; rfl
    have b3 : l2[3]? = some (.int .i64 t.n) := by rw [hl2]; rfl
    have b4 : l2[4]? = some k2 := by rw [hl2]; rfl
    have q1 : seq (t.pkg.1, t.pkg.2) (t.pkg.1, t.pkg.2) = true := seq_refl _
    have q2 : seq (t.name.1, t.name.2) (t.name.1, t.name.2) = true := seq_refl _
    obtain ⟨h3, n3, σ3, L3, hrun⟩ := same_loop t m nx (nx + 1) l1 l2 t.kids 0 _ _ _ 0 (tmL (tmL (tmL (tmL tm0 [(1, .agg l2), (0, .agg l1)]) [(4, .bool false), (3, .ptr (nx + 1) 0), (2, .ptr nx 0)]) [(40, .bool false)]) [(5, .int .i64 0)])
      (by rw [hkids]; exact ih) rfl L2.mem s1 s2 (hr1.mono L2.sle) (hr2.mono L2.sle) rfl rfl rfl
    refine ⟨h3, n3, σ3, L2.trans L3, ?_⟩
    refine Rn.of (f := 9) (l := [.agg l1, .agg l2]) (g := fun n d => F9 n (CN n d) (.agg l1) (.agg l2) h nx) (fun n d => F9_eq sp9 n (CN n d) (.agg l1) (.agg l2) h nx) ?_
    unfold F9
    repeat (first | simp -eta only [SY, ↓reduceIte, Nat.reduceEqDiff, Nat.reduceAdd, hb1, hb2, r_loadB _ _ g1, r_loadB _ _ g2, a0, a1, a2, a3, a4, b0, b1, b2, b3, b4, eqI_refl, seq_eq, q1, q2, hlen1, hlen2] | simp -eta only [KY, ↓reduceIte, Nat.reduceEqDiff, R9_0_eq, R9_1_eq, R9_2_eq, R9_3_eq, R9_4_eq, R9_5_eq, R9_7_eq, R9_8_eq, R9_9_eq])
    exact Ev.loop (B := fun n d => R9_10 n (CN n d)) (tm := fun _ _ => .fn _) hrun
  · cases hq with
    | head => exact ht
    | tail _ hq => exact hts q hq
end Go.Proofs.YtaajedkbaahgfaaGreatDoor
