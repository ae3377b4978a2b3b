/-
Texts of the proof, joined: R11, Ev19, Ev20, Ev21.
-/
import Derived.Test.YtaajedkbaahgfaaGreatDoorA10
import Derived.Test.YtaajedkbaahgfaaGreatDoorProg
set_option linter.unusedSimpArgs false
set_option linter.unusedVariables false
set_option linter.unusedSectionVars false
/-
Residual of function 11
-/
namespace Go.Proofs.YtaajedkbaahgfaaGreatDoor
open Go Go.AE
set_option maxRecDepth 100000
/-! touchstone/touchstonelaw09.Few -/
noncomputable def C11 : Code := Tryz.f11.body.getD .skip
noncomputable def E11 (n : Nat) (call : CallF) : KX CRes := kEnd Tryz.prog true locOfF n call (mapL (rsVar Tryz.prog 9) Tryz.f11.results.toList)
noncomputable def R11_0 (n : Nat) (call : CallF) : TM → Defs → Heap → Nat → KX CRes → Option CRes := kCode (β := CRes) Tryz.prog 302 9 8148143878778018081083159906299988461457195067813627367260299259913524433008524322647564288 C11 n call
noncomputable def R11_1 (n : Nat) (call : CallF) : TM → Defs → Heap → Nat → KX CRes → Option CRes := kCode (β := CRes) Tryz.prog 302 9 8148143878778018081083159906299988461457195067813627367260299259913524433008524322647564288 (cL C11) n call
noncomputable def R11_2 (n : Nat) (call : CallF) : TM → Defs → Heap → Nat → KX CRes → Option CRes := kCode (β := CRes) Tryz.prog 302 9 8148143878778018081083159906299988461457195067813627367260299259913524433008524322647564288 (cR C11) n call
noncomputable def R11_3 (n : Nat) (call : CallF) : TM → Defs → Heap → Nat → KX CRes → Option CRes := kCode (β := CRes) Tryz.prog 302 9 8148143878778018081083159906299988461457195067813627367260299259913524433008524322647564288 (cL (cR C11)) n call
noncomputable def R11_4 (n : Nat) (call : CallF) : TM → Defs → Heap → Nat → KX CRes → Option CRes := kCode (β := CRes) Tryz.prog 302 9 8148143878778018081083159906299988461457195067813627367260299259913524433008524322647564288 (cR (cR C11)) n call
noncomputable def R11_5 (n : Nat) (call : CallF) : TM → Defs → Heap → Nat → KX CRes → Option CRes := kCode (β := CRes) Tryz.prog 302 9 8148143878778018081083159906299988461457195067813627367260299259913524433008524322647564288 (cL (cR (cR C11))) n call
noncomputable def R11_6 (n : Nat) (call : CallF) : TM → Defs → Heap → Nat → KX CRes → Option CRes := kCode (β := CRes) Tryz.prog 302 9 8148143878778018081083159906299988461457195067813627367260299259913524433008524322647564288 (cR (cR (cR C11))) n call
noncomputable def R11_7 (n : Nat) (call : CallF) : TM → Defs → Heap → Nat → KX CRes → Option CRes := kCode (β := CRes) Tryz.prog 302 9 8148143878778018081083159906299988461457195067813627367260299259913524433008524322647564288 (cL (cR (cR (cR C11)))) n call
noncomputable def R11_8 (n : Nat) (call : CallF) : TM → Defs → Heap → Nat → KX CRes → Option CRes := kCode (β := CRes) Tryz.prog 302 9 8148143878778018081083159906299988461457195067813627367260299259913524433008524322647564288 (cR (cR (cR (cR C11)))) n call
noncomputable def R11_9 (n : Nat) (call : CallF) : TM → Defs → Heap → Nat → KX CRes → Option CRes := kCode (β := CRes) Tryz.prog 302 9 8148143878778018081083159906299988461457195067813627367260299259913524433008524322647564288 (cL (cR (cR (cR (cR C11))))) n call
noncomputable def R11_10 (n : Nat) (call : CallF) : TM → Defs → Heap → Nat → KX CRes → Option CRes := kCode (β := CRes) Tryz.prog 302 9 8148143878778018081083159906299988461457195067813627367260299259913524433008524322647564288 (cR (cR (cR (cR (cR C11))))) n call
noncomputable def R11_11 (n : Nat) (call : CallF) : TM → Defs → Heap → Nat → KX CRes → Option CRes := kCode (β := CRes) Tryz.prog 302 9 8148143878778018081083159906299988461457195067813627367260299259913524433008524322647564288 (cL (cL (cR (cR (cR (cR C11)))))) n call
noncomputable def R11_12 (n : Nat) (call : CallF) : TM → Defs → Heap → Nat → KX CRes → Option CRes := kCode (β := CRes) Tryz.prog 302 9 8148143878778018081083159906299988461457195067813627367260299259913524433008524322647564288 (cR (cL (cR (cR (cR (cR C11)))))) n call
noncomputable def R11_13 (n : Nat) (call : CallF) : TM → Defs → Heap → Nat → KX CRes → Option CRes := kCode (β := CRes) Tryz.prog 302 9 8148143878778018081083159906299988461457195067813627367260299259913524433008524322647564288 (cL (cR (cR (cR (cR (cR C11)))))) n call
noncomputable def R11_14 (n : Nat) (call : CallF) : TM → Defs → Heap → Nat → KX CRes → Option CRes := kCode (β := CRes) Tryz.prog 302 9 8148143878778018081083159906299988461457195067813627367260299259913524433008524322647564288 (cR (cR (cR (cR (cR (cR C11)))))) n call
noncomputable def R11_15 (n : Nat) (call : CallF) : TM → Defs → Heap → Nat → KX CRes → Option CRes := kCode (β := CRes) Tryz.prog 302 9 8148143878778018081083159906299988461457195067813627367260299259913524433008524322647564288 (cL (cR (cL (cR (cR (cR (cR C11))))))) n call
noncomputable def R11_16 (n : Nat) (call : CallF) : TM → Defs → Heap → Nat → KX CRes → Option CRes := kCode (β := CRes) Tryz.prog 302 9 8148143878778018081083159906299988461457195067813627367260299259913524433008524322647564288 (cL (cL (cR (cR (cR (cR (cR C11))))))) n call
noncomputable def R11_17 (n : Nat) (call : CallF) : TM → Defs → Heap → Nat → KX CRes → Option CRes := kCode (β := CRes) Tryz.prog 302 9 8148143878778018081083159906299988461457195067813627367260299259913524433008524322647564288 (cR (cL (cR (cR (cR (cR (cR C11))))))) n call
noncomputable def R11_18 (n : Nat) (call : CallF) : TM → Defs → Heap → Nat → KX CRes → Option CRes := kCode (β := CRes) Tryz.prog 302 9 8148143878778018081083159906299988461457195067813627367260299259913524433008524322647564288 (cL (cR (cR (cR (cR (cR (cR C11))))))) n call
noncomputable def R11_19 (n : Nat) (call : CallF) : TM → Defs → Heap → Nat → KX CRes → Option CRes := kCode (β := CRes) Tryz.prog 302 9 8148143878778018081083159906299988461457195067813627367260299259913524433008524322647564288 (cR (cR (cR (cR (cR (cR (cR C11))))))) n call
noncomputable def R11_20 (n : Nat) (call : CallF) : TM → Defs → Heap → Nat → KX CRes → Option CRes := kCode (β := CRes) Tryz.prog 302 9 8148143878778018081083159906299988461457195067813627367260299259913524433008524322647564288 (cL (cL (cR (cL (cR (cR (cR (cR C11)))))))) n call
noncomputable def R11_21 (n : Nat) (call : CallF) : TM → Defs → Heap → Nat → KX CRes → Option CRes := kCode (β := CRes) Tryz.prog 302 9 8148143878778018081083159906299988461457195067813627367260299259913524433008524322647564288 (cL (cR (cL (cR (cR (cR (cR (cR C11)))))))) n call
noncomputable def R11_22 (n : Nat) (call : CallF) : TM → Defs → Heap → Nat → KX CRes → Option CRes := kCode (β := CRes) Tryz.prog 302 9 8148143878778018081083159906299988461457195067813627367260299259913524433008524322647564288 (cL (cL (cR (cR (cR (cR (cR (cR C11)))))))) n call
noncomputable def R11_23 (n : Nat) (call : CallF) : TM → Defs → Heap → Nat → KX CRes → Option CRes := kCode (β := CRes) Tryz.prog 302 9 8148143878778018081083159906299988461457195067813627367260299259913524433008524322647564288 (cR (cL (cR (cR (cR (cR (cR (cR C11)))))))) n call
noncomputable def R11_24 (n : Nat) (call : CallF) : TM → Defs → Heap → Nat → KX CRes → Option CRes := kCode (β := CRes) Tryz.prog 302 9 8148143878778018081083159906299988461457195067813627367260299259913524433008524322647564288 (cL (cR (cR (cR (cR (cR (cR (cR C11)))))))) n call
noncomputable def R11_25 (n : Nat) (call : CallF) : TM → Defs → Heap → Nat → KX CRes → Option CRes := kCode (β := CRes) Tryz.prog 302 9 8148143878778018081083159906299988461457195067813627367260299259913524433008524322647564288 (cR (cR (cR (cR (cR (cR (cR (cR C11)))))))) n call
noncomputable def R11_26 (n : Nat) (call : CallF) : TM → Defs → Heap → Nat → KX CRes → Option CRes := kCode (β := CRes) Tryz.prog 302 9 8148143878778018081083159906299988461457195067813627367260299259913524433008524322647564288 (cL (cL (cR (cL (cR (cR (cR (cR (cR C11))))))))) n call
noncomputable def R11_27 (n : Nat) (call : CallF) : TM → Defs → Heap → Nat → KX CRes → Option CRes := kCode (β := CRes) Tryz.prog 302 9 8148143878778018081083159906299988461457195067813627367260299259913524433008524322647564288 (cL (cR (cL (cR (cR (cR (cR (cR (cR C11))))))))) n call
noncomputable def R11_28 (n : Nat) (call : CallF) : TM → Defs → Heap → Nat → KX CRes → Option CRes := kCode (β := CRes) Tryz.prog 302 9 8148143878778018081083159906299988461457195067813627367260299259913524433008524322647564288 (cL (cL (cR (cR (cR (cR (cR (cR (cR C11))))))))) n call
noncomputable def R11_29 (n : Nat) (call : CallF) : TM → Defs → Heap → Nat → KX CRes → Option CRes := kCode (β := CRes) Tryz.prog 302 9 8148143878778018081083159906299988461457195067813627367260299259913524433008524322647564288 (cR (cL (cR (cR (cR (cR (cR (cR (cR C11))))))))) n call
noncomputable def R11_30 (n : Nat) (call : CallF) : TM → Defs → Heap → Nat → KX CRes → Option CRes := kCode (β := CRes) Tryz.prog 302 9 8148143878778018081083159906299988461457195067813627367260299259913524433008524322647564288 (cL (cR (cR (cR (cR (cR (cR (cR (cR C11))))))))) n call
noncomputable def R11_31 (n : Nat) (call : CallF) : TM → Defs → Heap → Nat → KX CRes → Option CRes := kCode (β := CRes) Tryz.prog 302 9 8148143878778018081083159906299988461457195067813627367260299259913524433008524322647564288 (cR (cR (cR (cR (cR (cR (cR (cR (cR C11))))))))) n call
noncomputable def R11_32 (n : Nat) (call : CallF) : TM → Defs → Heap → Nat → KX CRes → Option CRes := kCode (β := CRes) Tryz.prog 302 9 8148143878778018081083159906299988461457195067813627367260299259913524433008524322647564288 (cL (cL (cL (cR (cL (cR (cR (cR (cR (cR C11)))))))))) n call
noncomputable def R11_33 (n : Nat) (call : CallF) : TM → Defs → Heap → Nat → KX CRes → Option CRes := kCode (β := CRes) Tryz.prog 302 9 8148143878778018081083159906299988461457195067813627367260299259913524433008524322647564288 (cR (cL (cL (cR (cL (cR (cR (cR (cR (cR C11)))))))))) n call
noncomputable def R11_34 (n : Nat) (call : CallF) : TM → Defs → Heap → Nat → KX CRes → Option CRes := kCode (β := CRes) Tryz.prog 302 9 8148143878778018081083159906299988461457195067813627367260299259913524433008524322647564288 (cL (cL (cR (cL (cR (cR (cR (cR (cR (cR C11)))))))))) n call
noncomputable def R11_35 (n : Nat) (call : CallF) : TM → Defs → Heap → Nat → KX CRes → Option CRes := kCode (β := CRes) Tryz.prog 302 9 8148143878778018081083159906299988461457195067813627367260299259913524433008524322647564288 (cL (cR (cL (cR (cR (cR (cR (cR (cR (cR C11)))))))))) n call
noncomputable def R11_36 (n : Nat) (call : CallF) : TM → Defs → Heap → Nat → KX CRes → Option CRes := kCode (β := CRes) Tryz.prog 302 9 8148143878778018081083159906299988461457195067813627367260299259913524433008524322647564288 (cL (cL (cR (cR (cR (cR (cR (cR (cR (cR C11)))))))))) n call
noncomputable def R11_37 (n : Nat) (call : CallF) : TM → Defs → Heap → Nat → KX CRes → Option CRes := kCode (β := CRes) Tryz.prog 302 9 8148143878778018081083159906299988461457195067813627367260299259913524433008524322647564288 (cR (cL (cR (cR (cR (cR (cR (cR (cR (cR C11)))))))))) n call
noncomputable def R11_38 (n : Nat) (call : CallF) : TM → Defs → Heap → Nat → KX CRes → Option CRes := kCode (β := CRes) Tryz.prog 302 9 8148143878778018081083159906299988461457195067813627367260299259913524433008524322647564288 (cL (cR (cL (cL (cR (cL (cR (cR (cR (cR (cR C11))))))))))) n call
noncomputable def R11_39 (n : Nat) (call : CallF) : TM → Defs → Heap → Nat → KX CRes → Option CRes := kCode (β := CRes) Tryz.prog 302 9 8148143878778018081083159906299988461457195067813627367260299259913524433008524322647564288 (cR (cR (cL (cL (cR (cL (cR (cR (cR (cR (cR C11))))))))))) n call
noncomputable def R11_40 (n : Nat) (call : CallF) : TM → Defs → Heap → Nat → KX CRes → Option CRes := kCode (β := CRes) Tryz.prog 302 9 8148143878778018081083159906299988461457195067813627367260299259913524433008524322647564288 (cL (cL (cL (cR (cL (cR (cR (cR (cR (cR (cR C11))))))))))) n call
noncomputable def R11_41 (n : Nat) (call : CallF) : TM → Defs → Heap → Nat → KX CRes → Option CRes := kCode (β := CRes) Tryz.prog 302 9 8148143878778018081083159906299988461457195067813627367260299259913524433008524322647564288 (cR (cL (cL (cR (cL (cR (cR (cR (cR (cR (cR C11))))))))))) n call
noncomputable def R11_42 (n : Nat) (call : CallF) : TM → Defs → Heap → Nat → KX CRes → Option CRes := kCode (β := CRes) Tryz.prog 302 9 8148143878778018081083159906299988461457195067813627367260299259913524433008524322647564288 (cL (cL (cR (cL (cR (cR (cR (cR (cR (cR (cR C11))))))))))) n call
noncomputable def R11_43 (n : Nat) (call : CallF) : TM → Defs → Heap → Nat → KX CRes → Option CRes := kCode (β := CRes) Tryz.prog 302 9 8148143878778018081083159906299988461457195067813627367260299259913524433008524322647564288 (cL (cR (cL (cR (cR (cR (cR (cR (cR (cR (cR C11))))))))))) n call
noncomputable def R11_44 (n : Nat) (call : CallF) : TM → Defs → Heap → Nat → KX CRes → Option CRes := kCode (β := CRes) Tryz.prog 302 9 8148143878778018081083159906299988461457195067813627367260299259913524433008524322647564288 (cL (cR (cR (cL (cL (cR (cL (cR (cR (cR (cR (cR C11)))))))))))) n call
noncomputable def R11_45 (n : Nat) (call : CallF) : TM → Defs → Heap → Nat → KX CRes → Option CRes := kCode (β := CRes) Tryz.prog 302 9 8148143878778018081083159906299988461457195067813627367260299259913524433008524322647564288 (cR (cR (cR (cL (cL (cR (cL (cR (cR (cR (cR (cR C11)))))))))))) n call
noncomputable def R11_46 (n : Nat) (call : CallF) : TM → Defs → Heap → Nat → KX CRes → Option CRes := kCode (β := CRes) Tryz.prog 302 9 8148143878778018081083159906299988461457195067813627367260299259913524433008524322647564288 (cL (cR (cL (cL (cR (cL (cR (cR (cR (cR (cR (cR C11)))))))))))) n call
noncomputable def R11_47 (n : Nat) (call : CallF) : TM → Defs → Heap → Nat → KX CRes → Option CRes := kCode (β := CRes) Tryz.prog 302 9 8148143878778018081083159906299988461457195067813627367260299259913524433008524322647564288 (cR (cR (cL (cL (cR (cL (cR (cR (cR (cR (cR (cR C11)))))))))))) n call
noncomputable def R11_48 (n : Nat) (call : CallF) : TM → Defs → Heap → Nat → KX CRes → Option CRes := kCode (β := CRes) Tryz.prog 302 9 8148143878778018081083159906299988461457195067813627367260299259913524433008524322647564288 (cL (cL (cR (cL (cR (cR (cR (cR (cR (cR (cR (cR C11)))))))))))) n call
noncomputable def R11_49 (n : Nat) (call : CallF) : TM → Defs → Heap → Nat → KX CRes → Option CRes := kCode (β := CRes) Tryz.prog 302 9 8148143878778018081083159906299988461457195067813627367260299259913524433008524322647564288 (cL (cL (cR (cR (cL (cL (cR (cL (cR (cR (cR (cR (cR C11))))))))))))) n call
noncomputable def R11_50 (n : Nat) (call : CallF) : TM → Defs → Heap → Nat → KX CRes → Option CRes := kCode (β := CRes) Tryz.prog 302 9 8148143878778018081083159906299988461457195067813627367260299259913524433008524322647564288 (cL (cR (cR (cL (cL (cR (cL (cR (cR (cR (cR (cR (cR C11))))))))))))) n call
noncomputable def R11_51 (n : Nat) (call : CallF) : TM → Defs → Heap → Nat → KX CRes → Option CRes := kCode (β := CRes) Tryz.prog 302 9 8148143878778018081083159906299988461457195067813627367260299259913524433008524322647564288 (cR (cR (cR (cL (cL (cR (cL (cR (cR (cR (cR (cR (cR C11))))))))))))) n call
noncomputable def R11_52 (n : Nat) (call : CallF) : TM → Defs → Heap → Nat → KX CRes → Option CRes := kCode (β := CRes) Tryz.prog 302 9 8148143878778018081083159906299988461457195067813627367260299259913524433008524322647564288 (cL (cL (cL (cR (cR (cL (cL (cR (cL (cR (cR (cR (cR (cR C11)))))))))))))) n call
noncomputable def R11_53 (n : Nat) (call : CallF) : TM → Defs → Heap → Nat → KX CRes → Option CRes := kCode (β := CRes) Tryz.prog 302 9 8148143878778018081083159906299988461457195067813627367260299259913524433008524322647564288 (cR (cL (cL (cR (cR (cL (cL (cR (cL (cR (cR (cR (cR (cR C11)))))))))))))) n call
noncomputable def R11_54 (n : Nat) (call : CallF) : TM → Defs → Heap → Nat → KX CRes → Option CRes := kCode (β := CRes) Tryz.prog 302 9 8148143878778018081083159906299988461457195067813627367260299259913524433008524322647564288 (cL (cL (cR (cR (cL (cL (cR (cL (cR (cR (cR (cR (cR (cR C11)))))))))))))) n call
noncomputable def R11_55 (n : Nat) (call : CallF) : TM → Defs → Heap → Nat → KX CRes → Option CRes := kCode (β := CRes) Tryz.prog 302 9 8148143878778018081083159906299988461457195067813627367260299259913524433008524322647564288 (cL (cR (cL (cL (cR (cR (cL (cL (cR (cL (cR (cR (cR (cR (cR C11))))))))))))))) n call
noncomputable def R11_56 (n : Nat) (call : CallF) : TM → Defs → Heap → Nat → KX CRes → Option CRes := kCode (β := CRes) Tryz.prog 302 9 8148143878778018081083159906299988461457195067813627367260299259913524433008524322647564288 (cR (cR (cL (cL (cR (cR (cL (cL (cR (cL (cR (cR (cR (cR (cR C11))))))))))))))) n call
noncomputable def R11_57 (n : Nat) (call : CallF) : TM → Defs → Heap → Nat → KX CRes → Option CRes := kCode (β := CRes) Tryz.prog 302 9 8148143878778018081083159906299988461457195067813627367260299259913524433008524322647564288 (cL (cL (cL (cR (cR (cL (cL (cR (cL (cR (cR (cR (cR (cR (cR C11))))))))))))))) n call
noncomputable def R11_58 (n : Nat) (call : CallF) : TM → Defs → Heap → Nat → KX CRes → Option CRes := kCode (β := CRes) Tryz.prog 302 9 8148143878778018081083159906299988461457195067813627367260299259913524433008524322647564288 (cR (cL (cL (cR (cR (cL (cL (cR (cL (cR (cR (cR (cR (cR (cR C11))))))))))))))) n call
noncomputable def R11_59 (n : Nat) (call : CallF) : TM → Defs → Heap → Nat → KX CRes → Option CRes := kCode (β := CRes) Tryz.prog 302 9 8148143878778018081083159906299988461457195067813627367260299259913524433008524322647564288 (cL (cR (cR (cL (cL (cR (cR (cL (cL (cR (cL (cR (cR (cR (cR (cR C11)))))))))))))))) n call
noncomputable def R11_60 (n : Nat) (call : CallF) : TM → Defs → Heap → Nat → KX CRes → Option CRes := kCode (β := CRes) Tryz.prog 302 9 8148143878778018081083159906299988461457195067813627367260299259913524433008524322647564288 (cR (cR (cR (cL (cL (cR (cR (cL (cL (cR (cL (cR (cR (cR (cR (cR C11)))))))))))))))) n call
noncomputable def R11_61 (n : Nat) (call : CallF) : TM → Defs → Heap → Nat → KX CRes → Option CRes := kCode (β := CRes) Tryz.prog 302 9 8148143878778018081083159906299988461457195067813627367260299259913524433008524322647564288 (cL (cR (cL (cL (cR (cR (cL (cL (cR (cL (cR (cR (cR (cR (cR (cR C11)))))))))))))))) n call
noncomputable def R11_62 (n : Nat) (call : CallF) : TM → Defs → Heap → Nat → KX CRes → Option CRes := kCode (β := CRes) Tryz.prog 302 9 8148143878778018081083159906299988461457195067813627367260299259913524433008524322647564288 (cR (cR (cL (cL (cR (cR (cL (cL (cR (cL (cR (cR (cR (cR (cR (cR C11)))))))))))))))) n call
noncomputable def R11_63 (n : Nat) (call : CallF) : TM → Defs → Heap → Nat → KX CRes → Option CRes := kCode (β := CRes) Tryz.prog 302 9 8148143878778018081083159906299988461457195067813627367260299259913524433008524322647564288 (cL (cL (cR (cR (cL (cL (cR (cR (cL (cL (cR (cL (cR (cR (cR (cR (cR C11))))))))))))))))) n call
noncomputable def R11_64 (n : Nat) (call : CallF) : TM → Defs → Heap → Nat → KX CRes → Option CRes := kCode (β := CRes) Tryz.prog 302 9 8148143878778018081083159906299988461457195067813627367260299259913524433008524322647564288 (cR (cL (cR (cR (cL (cL (cR (cR (cL (cL (cR (cL (cR (cR (cR (cR (cR C11))))))))))))))))) n call
noncomputable def R11_65 (n : Nat) (call : CallF) : TM → Defs → Heap → Nat → KX CRes → Option CRes := kCode (β := CRes) Tryz.prog 302 9 8148143878778018081083159906299988461457195067813627367260299259913524433008524322647564288 (cL (cR (cR (cR (cL (cL (cR (cR (cL (cL (cR (cL (cR (cR (cR (cR (cR C11))))))))))))))))) n call
noncomputable def R11_66 (n : Nat) (call : CallF) : TM → Defs → Heap → Nat → KX CRes → Option CRes := kCode (β := CRes) Tryz.prog 302 9 8148143878778018081083159906299988461457195067813627367260299259913524433008524322647564288 (cR (cR (cR (cR (cL (cL (cR (cR (cL (cL (cR (cL (cR (cR (cR (cR (cR C11))))))))))))))))) n call
noncomputable def R11_67 (n : Nat) (call : CallF) : TM → Defs → Heap → Nat → KX CRes → Option CRes := kCode (β := CRes) Tryz.prog 302 9 8148143878778018081083159906299988461457195067813627367260299259913524433008524322647564288 (cL (cR (cR (cL (cL (cR (cR (cL (cL (cR (cL (cR (cR (cR (cR (cR (cR C11))))))))))))))))) n call
noncomputable def R11_68 (n : Nat) (call : CallF) : TM → Defs → Heap → Nat → KX CRes → Option CRes := kCode (β := CRes) Tryz.prog 302 9 8148143878778018081083159906299988461457195067813627367260299259913524433008524322647564288 (cR (cR (cR (cL (cL (cR (cR (cL (cL (cR (cL (cR (cR (cR (cR (cR (cR C11))))))))))))))))) n call
noncomputable def R11_69 (n : Nat) (call : CallF) : TM → Defs → Heap → Nat → KX CRes → Option CRes := kCode (β := CRes) Tryz.prog 302 9 8148143878778018081083159906299988461457195067813627367260299259913524433008524322647564288 (cL (cR (cL (cR (cR (cL (cL (cR (cR (cL (cL (cR (cL (cR (cR (cR (cR (cR C11)))))))))))))))))) n call
noncomputable def R11_70 (n : Nat) (call : CallF) : TM → Defs → Heap → Nat → KX CRes → Option CRes := kCode (β := CRes) Tryz.prog 302 9 8148143878778018081083159906299988461457195067813627367260299259913524433008524322647564288 (cL (cR (cR (cR (cR (cL (cL (cR (cR (cL (cL (cR (cL (cR (cR (cR (cR (cR C11)))))))))))))))))) n call
noncomputable def R11_71 (n : Nat) (call : CallF) : TM → Defs → Heap → Nat → KX CRes → Option CRes := kCode (β := CRes) Tryz.prog 302 9 8148143878778018081083159906299988461457195067813627367260299259913524433008524322647564288 (cL (cR (cR (cR (cL (cL (cR (cR (cL (cL (cR (cL (cR (cR (cR (cR (cR (cR C11)))))))))))))))))) n call
noncomputable def R11_72 (n : Nat) (call : CallF) : TM → Defs → Heap → Nat → KX CRes → Option CRes := kCode (β := CRes) Tryz.prog 302 9 8148143878778018081083159906299988461457195067813627367260299259913524433008524322647564288 (cR (cR (cR (cR (cL (cL (cR (cR (cL (cL (cR (cL (cR (cR (cR (cR (cR (cR C11)))))))))))))))))) n call
noncomputable def R11_73 (n : Nat) (call : CallF) : TM → Defs → Heap → Nat → KX CRes → Option CRes := kCode (β := CRes) Tryz.prog 302 9 8148143878778018081083159906299988461457195067813627367260299259913524433008524322647564288 (cL (cL (cR (cL (cR (cR (cL (cL (cR (cR (cL (cL (cR (cL (cR (cR (cR (cR (cR C11))))))))))))))))))) n call
noncomputable def R11_74 (n : Nat) (call : CallF) : TM → Defs → Heap → Nat → KX CRes → Option CRes := kCode (β := CRes) Tryz.prog 302 9 8148143878778018081083159906299988461457195067813627367260299259913524433008524322647564288 (cL (cL (cR (cR (cR (cR (cL (cL (cR (cR (cL (cL (cR (cL (cR (cR (cR (cR (cR C11))))))))))))))))))) n call
noncomputable def R11_75 (n : Nat) (call : CallF) : TM → Defs → Heap → Nat → KX CRes → Option CRes := kCode (β := CRes) Tryz.prog 302 9 8148143878778018081083159906299988461457195067813627367260299259913524433008524322647564288 (cL (cR (cR (cR (cR (cL (cL (cR (cR (cL (cL (cR (cL (cR (cR (cR (cR (cR (cR C11))))))))))))))))))) n call
noncomputable def R11_76 (n : Nat) (call : CallF) : TM → Defs → Heap → Nat → KX CRes → Option CRes := kCode (β := CRes) Tryz.prog 302 9 8148143878778018081083159906299988461457195067813627367260299259913524433008524322647564288 (cL (cL (cR (cR (cR (cR (cL (cL (cR (cR (cL (cL (cR (cL (cR (cR (cR (cR (cR (cR C11)))))))))))))))))))) n call
noncomputable def F11 (n : Nat) (call : CallF) (a0 : AV) (h : Heap) (nx : Nat) : Option CRes :=
  R11_0 n call (.fn (tmL tm0 [(0, a0)])) [] h nx (E11 n call)
theorem F11_eq {sp : Specs} (hsp : sp 11 = none) (n : Nat) (call : CallF) (a0 : AV) (h : Heap) (nx : Nat) : callS Tryz.prog true sp locOfF n call 11 [a0] h nx = F11 n call a0 h nx :=
  (call_eq2 Tryz.func11 (c := C11) (N := 302) (dp := 9) (L := 8148143878778018081083159906299988461457195067813627367260299259913524433008524322647564288) (tm := (.fn (tmL tm0 [(0, a0)]))) (by kernel_rfl) (by kernel_rfl) (by kernel_rfl) (by kernel_rfl) (by kernel_rfl) (by kernel_rfl) hsp n call h nx).trans (by kernel_rfl)
theorem R11_0_eq (n : Nat) (call : CallF) (f : Nat → Option AV) (df : Defs) (h : Heap) (nx : Nat) (K : KX CRes) : R11_0 n call (.fn f) df h nx K =
  R11_1 n call (.fn f) df h nx (kThen (R11_2 n call) K) :=
  (congrArg (fun c => kCode (β := CRes) Tryz.prog 302 9 8148143878778018081083159906299988461457195067813627367260299259913524433008524322647564288 c n call (.fn f) df h nx K) (show C11 = (.seq (cL C11) (cR C11)) by kernel_rfl)).trans (kCode_seq ..)
theorem R11_1_eq (n : Nat) (call : CallF) (f : Nat → Option AV) (df : Defs) (h : Heap) (nx : Nat) (K : KX CRes) : R11_1 n call (.fn f) df h nx K =
  bd (bd (f 0) fun v1 => (boxR nx v1)) fun r2 =>
  letH (hset h nx r2.2) (Nat.succ nx) fun h3 n4 =>
  K h3 n4 .normal (.fn (tmL f [(2, (.bool false)), (1, r2.1)])) df := by kernel_rfl
theorem R11_2_eq (n : Nat) (call : CallF) (f : Nat → Option AV) (df : Defs) (h : Heap) (nx : Nat) (K : KX CRes) : R11_2 n call (.fn f) df h nx K =
  R11_3 n call (.fn f) df h nx (kThen (R11_4 n call) K) :=
  (congrArg (fun c => kCode (β := CRes) Tryz.prog 302 9 8148143878778018081083159906299988461457195067813627367260299259913524433008524322647564288 c n call (.fn f) df h nx K) (show (cR C11) = (.seq (cL (cR C11)) (cR (cR C11))) by kernel_rfl)).trans (kCode_seq ..)
theorem R11_3_eq (n : Nat) (call : CallF) (f : Nat → Option AV) (df : Defs) (h : Heap) (nx : Nat) (K : KX CRes) : R11_3 n call (.fn f) df h nx K =
  bd (bd (f 1) fun v5 => (adr 0 v5)) fun v6 =>
  bd (ld1 h v6) fun v7 =>
  bd (lenSl v7) fun v8 =>
  bd (binV .gtr (eqT Tryz.prog 8 3) true (!(Tryz.prog.eqGuardType Tryz.prog.depth 3)) (.int .i64 30) v8) fun v9 =>
  bd (wantV false v9) fun b10 => bd (sl b10 ((bd (f 1) fun v11 => (adr 1 v11))) (some (.tuple []))) fun v12 =>
  bd (wantV false v9) fun b13 => bd (sl b13 ((ld1 h v12)) (some (.tuple []))) fun v14 =>
  bd (wantV false v9) fun b15 => bd (sl b15 ((lenSl v14)) (some (.tuple []))) fun v16 =>
  bd (wantV false v9) fun b17 => bd (sl b17 ((binV .gtr (eqT Tryz.prog 8 3) true (!(Tryz.prog.eqGuardType Tryz.prog.depth 3)) (.int .i64 30) v16)) (some (.tuple []))) fun v18 =>
  bd (pickV v9 (.bool true) v18) fun v19 =>
  bd (wantV false v19) fun b20 => bd (sl b20 ((bd (f 1) fun v21 => (adr 2 v21))) (some (.tuple []))) fun v22 =>
  bd (wantV false v19) fun b23 => bd (sl b23 ((ld1 h v22)) (some (.tuple []))) fun v24 =>
  bd (wantV false v19) fun b25 => bd (sl b25 ((lenSl v24)) (some (.tuple []))) fun v26 =>
  bd (wantV false v19) fun b27 => bd (sl b27 ((binV .gtr (eqT Tryz.prog 8 3) true (!(Tryz.prog.eqGuardType Tryz.prog.depth 3)) (.int .i64 30) v26)) (some (.tuple []))) fun v28 =>
  bd (pickV v19 (.bool true) v28) fun v29 =>
  bd (wantV false v29) fun b30 => bd (sl b30 ((bd (f 1) fun v31 => (adr 3 v31))) (some (.tuple []))) fun v32 =>
  bd (wantV false v29) fun b33 => bd (sl b33 ((ld1 h v32)) (some (.tuple []))) fun v34 =>
  bd (wantV false v29) fun b35 => bd (sl b35 ((lenSl v34)) (some (.tuple []))) fun v36 =>
  bd (wantV false v29) fun b37 => bd (sl b37 ((binV .gtr (eqT Tryz.prog 8 3) true (!(Tryz.prog.eqGuardType Tryz.prog.depth 3)) (.int .i64 60) v36)) (some (.tuple []))) fun v38 =>
  bd (pickV v29 (.bool true) v38) fun v39 =>
  bd (wantV false v39) fun b40 => bd (sl b40 ((bd (f 1) fun v41 => (adr 4 v41))) (some (.tuple []))) fun v42 =>
  bd (wantV false v39) fun b43 => bd (sl b43 ((ld1 h v42)) (some (.tuple []))) fun v44 =>
  bd (wantV false v39) fun b45 => bd (sl b45 ((lenSl v44)) (some (.tuple []))) fun v46 =>
  bd (wantV false v39) fun b47 => bd (sl b47 ((binV .gtr (eqT Tryz.prog 8 3) true (!(Tryz.prog.eqGuardType Tryz.prog.depth 3)) (.int .i64 60) v46)) (some (.tuple []))) fun v48 =>
  bd (pickV v39 (.bool true) v48) fun v49 =>
  onBool v49 fun b50 => sl b50
  (K h nx .ret (.fn (tmL f [(2, (.bool false)), (40, v49)])) df)
  (K h nx .normal (.fn (tmL f [(40, v49)])) df) := by kernel_rfl
theorem R11_4_eq (n : Nat) (call : CallF) (f : Nat → Option AV) (df : Defs) (h : Heap) (nx : Nat) (K : KX CRes) : R11_4 n call (.fn f) df h nx K =
  R11_5 n call (.fn f) df h nx (kThen (R11_6 n call) K) :=
  (congrArg (fun c => kCode (β := CRes) Tryz.prog 302 9 8148143878778018081083159906299988461457195067813627367260299259913524433008524322647564288 c n call (.fn f) df h nx K) (show (cR (cR C11)) = (.seq (cL (cR (cR C11))) (cR (cR (cR C11)))) by kernel_rfl)).trans (kCode_seq ..)
theorem R11_5_eq (n : Nat) (call : CallF) (f : Nat → Option AV) (df : Defs) (h : Heap) (nx : Nat) (K : KX CRes) : R11_5 n call (.fn f) df h nx K =
  K h nx .normal (.fn (tmL f [(3, .nilslice)])) df := by kernel_rfl
theorem R11_6_eq (n : Nat) (call : CallF) (f : Nat → Option AV) (df : Defs) (h : Heap) (nx : Nat) (K : KX CRes) : R11_6 n call (.fn f) df h nx K =
  R11_7 n call (.fn f) df h nx (kThen (R11_8 n call) K) :=
  (congrArg (fun c => kCode (β := CRes) Tryz.prog 302 9 8148143878778018081083159906299988461457195067813627367260299259913524433008524322647564288 c n call (.fn f) df h nx K) (show (cR (cR (cR C11))) = (.seq (cL (cR (cR (cR C11)))) (cR (cR (cR (cR C11))))) by kernel_rfl)).trans (kCode_seq ..)
theorem R11_7_eq (n : Nat) (call : CallF) (f : Nat → Option AV) (df : Defs) (h : Heap) (nx : Nat) (K : KX CRes) : R11_7 n call (.fn f) df h nx K =
  K h nx .normal (.fn (tmL f [(4, (.int .i64 0))])) df := by kernel_rfl
theorem R11_8_eq (n : Nat) (call : CallF) (f : Nat → Option AV) (df : Defs) (h : Heap) (nx : Nat) (K : KX CRes) : R11_8 n call (.fn f) df h nx K =
  R11_9 n call (.fn f) df h nx (kThen (R11_10 n call) K) :=
  (congrArg (fun c => kCode (β := CRes) Tryz.prog 302 9 8148143878778018081083159906299988461457195067813627367260299259913524433008524322647564288 c n call (.fn f) df h nx K) (show (cR (cR (cR (cR C11)))) = (.seq (cL (cR (cR (cR (cR C11))))) (cR (cR (cR (cR (cR C11)))))) by kernel_rfl)).trans (kCode_seq ..)
theorem R11_9_eq (n : Nat) (call : CallF) (f : Nat → Option AV) (df : Defs) (h : Heap) (nx : Nat) (K : KX CRes) : R11_9 n call (.fn f) df h nx K =
  R11_11 n call (.fn f) df h nx (kThen (R11_12 n call) K) :=
  (congrArg (fun c => kCode (β := CRes) Tryz.prog 302 9 8148143878778018081083159906299988461457195067813627367260299259913524433008524322647564288 c n call (.fn f) df h nx K) (show (cL (cR (cR (cR (cR C11))))) = (.seq (cL (cL (cR (cR (cR (cR C11)))))) (cR (cL (cR (cR (cR (cR C11))))))) by kernel_rfl)).trans (kCode_seq ..)
theorem R11_10_eq (n : Nat) (call : CallF) (f : Nat → Option AV) (df : Defs) (h : Heap) (nx : Nat) (K : KX CRes) : R11_10 n call (.fn f) df h nx K =
  R11_13 n call (.fn f) df h nx (kThen (R11_14 n call) K) :=
  (congrArg (fun c => kCode (β := CRes) Tryz.prog 302 9 8148143878778018081083159906299988461457195067813627367260299259913524433008524322647564288 c n call (.fn f) df h nx K) (show (cR (cR (cR (cR (cR C11))))) = (.seq (cL (cR (cR (cR (cR (cR C11)))))) (cR (cR (cR (cR (cR (cR C11))))))) by kernel_rfl)).trans (kCode_seq ..)
theorem R11_11_eq (n : Nat) (call : CallF) (f : Nat → Option AV) (df : Defs) (h : Heap) (nx : Nat) (K : KX CRes) : R11_11 n call (.fn f) df h nx K =
  bd (bd (f 1) fun v51 => (adr 0 v51)) fun v52 =>
  bd (ld1 h v52) fun v53 =>
  bd (lenSl v53) fun v54 =>
  K h nx .normal (.fn (tmL f [(44, (.int .i64 0)), (43, v54)])) df := by kernel_rfl
theorem R11_12_eq (n : Nat) (call : CallF) (f : Nat → Option AV) (df : Defs) (h : Heap) (nx : Nat) (K : KX CRes) : R11_12 n call (.fn f) df h nx K =
  R11_15 n call (.fn f) df h nx (kLeave 0 K) :=
  (congrArg (fun c => kCode (β := CRes) Tryz.prog 302 9 8148143878778018081083159906299988461457195067813627367260299259913524433008524322647564288 c n call (.fn f) df h nx K) (show (cR (cL (cR (cR (cR (cR C11)))))) = (.block 0 (cL (cR (cL (cR (cR (cR (cR C11)))))))) by kernel_rfl)).trans (kCode_block ..)
theorem R11_13_eq (n : Nat) (call : CallF) (f : Nat → Option AV) (df : Defs) (h : Heap) (nx : Nat) (K : KX CRes) : R11_13 n call (.fn f) df h nx K =
  R11_16 n call (.fn f) df h nx (kThen (R11_17 n call) K) :=
  (congrArg (fun c => kCode (β := CRes) Tryz.prog 302 9 8148143878778018081083159906299988461457195067813627367260299259913524433008524322647564288 c n call (.fn f) df h nx K) (show (cL (cR (cR (cR (cR (cR C11)))))) = (.seq (cL (cL (cR (cR (cR (cR (cR C11))))))) (cR (cL (cR (cR (cR (cR (cR C11)))))))) by kernel_rfl)).trans (kCode_seq ..)
theorem R11_14_eq (n : Nat) (call : CallF) (f : Nat → Option AV) (df : Defs) (h : Heap) (nx : Nat) (K : KX CRes) : R11_14 n call (.fn f) df h nx K =
  R11_18 n call (.fn f) df h nx (kThen (R11_19 n call) K) :=
  (congrArg (fun c => kCode (β := CRes) Tryz.prog 302 9 8148143878778018081083159906299988461457195067813627367260299259913524433008524322647564288 c n call (.fn f) df h nx K) (show (cR (cR (cR (cR (cR (cR C11)))))) = (.seq (cL (cR (cR (cR (cR (cR (cR C11))))))) (cR (cR (cR (cR (cR (cR (cR C11)))))))) by kernel_rfl)).trans (kCode_seq ..)
theorem R11_15_eq (n : Nat) (call : CallF) (f : Nat → Option AV) (df : Defs) (h : Heap) (nx : Nat) (K : KX CRes) : R11_15 n call (.fn f) df h nx K =
  kLoop (R11_20 n call) n (.fn f) df h nx K :=
  (congrArg (fun c => kCode (β := CRes) Tryz.prog 302 9 8148143878778018081083159906299988461457195067813627367260299259913524433008524322647564288 c n call (.fn f) df h nx K) (show (cL (cR (cL (cR (cR (cR (cR C11))))))) = (.loop (cL (cL (cR (cL (cR (cR (cR (cR C11))))))))) by kernel_rfl)).trans (kCode_loop ..)
theorem R11_16_eq (n : Nat) (call : CallF) (f : Nat → Option AV) (df : Defs) (h : Heap) (nx : Nat) (K : KX CRes) : R11_16 n call (.fn f) df h nx K =
  bd (bd (f 1) fun v55 => (adr 1 v55)) fun v56 =>
  bd (ld1 h v56) fun v57 =>
  bd (lenSl v57) fun v58 =>
  K h nx .normal (.fn (tmL f [(71, (.int .i64 0)), (70, v58)])) df := by kernel_rfl
theorem R11_17_eq (n : Nat) (call : CallF) (f : Nat → Option AV) (df : Defs) (h : Heap) (nx : Nat) (K : KX CRes) : R11_17 n call (.fn f) df h nx K =
  R11_21 n call (.fn f) df h nx (kLeave 2 K) :=
  (congrArg (fun c => kCode (β := CRes) Tryz.prog 302 9 8148143878778018081083159906299988461457195067813627367260299259913524433008524322647564288 c n call (.fn f) df h nx K) (show (cR (cL (cR (cR (cR (cR (cR C11))))))) = (.block 2 (cL (cR (cL (cR (cR (cR (cR (cR C11))))))))) by kernel_rfl)).trans (kCode_block ..)
theorem R11_18_eq (n : Nat) (call : CallF) (f : Nat → Option AV) (df : Defs) (h : Heap) (nx : Nat) (K : KX CRes) : R11_18 n call (.fn f) df h nx K =
  R11_22 n call (.fn f) df h nx (kThen (R11_23 n call) K) :=
  (congrArg (fun c => kCode (β := CRes) Tryz.prog 302 9 8148143878778018081083159906299988461457195067813627367260299259913524433008524322647564288 c n call (.fn f) df h nx K) (show (cL (cR (cR (cR (cR (cR (cR C11))))))) = (.seq (cL (cL (cR (cR (cR (cR (cR (cR C11)))))))) (cR (cL (cR (cR (cR (cR (cR (cR C11))))))))) by kernel_rfl)).trans (kCode_seq ..)
theorem R11_19_eq (n : Nat) (call : CallF) (f : Nat → Option AV) (df : Defs) (h : Heap) (nx : Nat) (K : KX CRes) : R11_19 n call (.fn f) df h nx K =
  R11_24 n call (.fn f) df h nx (kThen (R11_25 n call) K) :=
  (congrArg (fun c => kCode (β := CRes) Tryz.prog 302 9 8148143878778018081083159906299988461457195067813627367260299259913524433008524322647564288 c n call (.fn f) df h nx K) (show (cR (cR (cR (cR (cR (cR (cR C11))))))) = (.seq (cL (cR (cR (cR (cR (cR (cR (cR C11)))))))) (cR (cR (cR (cR (cR (cR (cR (cR C11))))))))) by kernel_rfl)).trans (kCode_seq ..)
theorem R11_20_eq (n : Nat) (call : CallF) (f : Nat → Option AV) (df : Defs) (h : Heap) (nx : Nat) (K : KX CRes) : R11_20 n call (.fn f) df h nx K =
  bd (bd (f 44) fun v59 => bd (f 43) fun v60 => (binV .lss (eqT Tryz.prog 8 3) false (!(Tryz.prog.eqGuardType Tryz.prog.depth 3)) v60 v59)) fun v61 =>
  onBool v61 fun b62 => sl b62
  (bd (f 44) fun v63 =>
  bd (bd ((f 4)) fun v64 => some v64) fun v65 =>
  bd (bd ((bd (f 1) fun v66 => (adr 0 v66))) fun v67 => some v67) fun v68 =>
  bd (bd ((ld1 h v68)) fun v69 => some v69) fun v70 =>
  bd (bd ((idx 5 v70 v63)) fun v71 => some v71) fun v72 =>
  bd (bd ((adr 0 v72)) fun v73 => some v73) fun v74 =>
  bd (bd ((ld1 h v74)) fun v75 => some v75) fun v76 =>
  bd (bd ((onStr v76 fun m _ => some (.int .i64 (Int.ofNat m)))) fun v77 => some v77) fun v78 =>
  bd (bd ((minV v78 (.int .i64 5000))) fun v79 => some v79) fun v80 =>
  bd (bd ((binV .add (eqT Tryz.prog 8 3) false (!(Tryz.prog.eqGuardType Tryz.prog.depth 3)) v80 v65)) fun v81 => some v81) fun v82 =>
  bd (bd ((bd (f 1) fun v83 => (adr 0 v83))) fun v84 => some v84) fun v85 =>
  bd (bd ((ld1 h v85)) fun v86 => some v86) fun v87 =>
  bd (bd ((idx 5 v87 v63)) fun v88 => some v88) fun v89 =>
  bd (bd ((adr 1 v89)) fun v90 => some v90) fun v91 =>
  bd (bd ((adr 0 v91)) fun v92 => some v92) fun v93 =>
  bd (bd ((ld1 h v93)) fun v94 => some v94) fun v95 =>
  bd (bd ((onStr v95 fun m _ => some (.int .i64 (Int.ofNat m)))) fun v96 => some v96) fun v97 =>
  bd (bd ((minV v97 (.int .i64 5000))) fun v98 => some v98) fun v99 =>
  bd (bd ((binV .add (eqT Tryz.prog 8 3) false (!(Tryz.prog.eqGuardType Tryz.prog.depth 3)) v99 v82)) fun v100 => some v100) fun v101 =>
  bd (bd (f 44) fun v102 => (binV .add (eqT Tryz.prog 8 3) true (!(Tryz.prog.eqGuardType Tryz.prog.depth 3)) (.int .i64 1) v102)) fun v103 =>
  K h (nx + 21) .normal (.fn (tmL f [(44, v103), (4, v101), (5, v63), (45, v61)])) df)
  (K h nx (.exit 0) (.fn (tmL f [(45, v61)])) df) := by kernel_rfl
theorem R11_21_eq (n : Nat) (call : CallF) (f : Nat → Option AV) (df : Defs) (h : Heap) (nx : Nat) (K : KX CRes) : R11_21 n call (.fn f) df h nx K =
  kLoop (R11_26 n call) n (.fn f) df h nx K :=
  (congrArg (fun c => kCode (β := CRes) Tryz.prog 302 9 8148143878778018081083159906299988461457195067813627367260299259913524433008524322647564288 c n call (.fn f) df h nx K) (show (cL (cR (cL (cR (cR (cR (cR (cR C11)))))))) = (.loop (cL (cL (cR (cL (cR (cR (cR (cR (cR C11)))))))))) by kernel_rfl)).trans (kCode_loop ..)
theorem R11_22_eq (n : Nat) (call : CallF) (f : Nat → Option AV) (df : Defs) (h : Heap) (nx : Nat) (K : KX CRes) : R11_22 n call (.fn f) df h nx K =
  bd (bd (f 1) fun v104 => (adr 2 v104)) fun v105 =>
  bd (ld1 h v105) fun v106 =>
  bd (lenSl v106) fun v107 =>
  K h nx .normal (.fn (tmL f [(175, (.int .i64 0)), (174, v107)])) df := by kernel_rfl
theorem R11_23_eq (n : Nat) (call : CallF) (f : Nat → Option AV) (df : Defs) (h : Heap) (nx : Nat) (K : KX CRes) : R11_23 n call (.fn f) df h nx K =
  R11_27 n call (.fn f) df h nx (kLeave 8 K) :=
  (congrArg (fun c => kCode (β := CRes) Tryz.prog 302 9 8148143878778018081083159906299988461457195067813627367260299259913524433008524322647564288 c n call (.fn f) df h nx K) (show (cR (cL (cR (cR (cR (cR (cR (cR C11)))))))) = (.block 8 (cL (cR (cL (cR (cR (cR (cR (cR (cR C11)))))))))) by kernel_rfl)).trans (kCode_block ..)
theorem R11_24_eq (n : Nat) (call : CallF) (f : Nat → Option AV) (df : Defs) (h : Heap) (nx : Nat) (K : KX CRes) : R11_24 n call (.fn f) df h nx K =
  R11_28 n call (.fn f) df h nx (kThen (R11_29 n call) K) :=
  (congrArg (fun c => kCode (β := CRes) Tryz.prog 302 9 8148143878778018081083159906299988461457195067813627367260299259913524433008524322647564288 c n call (.fn f) df h nx K) (show (cL (cR (cR (cR (cR (cR (cR (cR C11)))))))) = (.seq (cL (cL (cR (cR (cR (cR (cR (cR (cR C11))))))))) (cR (cL (cR (cR (cR (cR (cR (cR (cR C11)))))))))) by kernel_rfl)).trans (kCode_seq ..)
theorem R11_25_eq (n : Nat) (call : CallF) (f : Nat → Option AV) (df : Defs) (h : Heap) (nx : Nat) (K : KX CRes) : R11_25 n call (.fn f) df h nx K =
  R11_30 n call (.fn f) df h nx (kThen (R11_31 n call) K) :=
  (congrArg (fun c => kCode (β := CRes) Tryz.prog 302 9 8148143878778018081083159906299988461457195067813627367260299259913524433008524322647564288 c n call (.fn f) df h nx K) (show (cR (cR (cR (cR (cR (cR (cR (cR C11)))))))) = (.seq (cL (cR (cR (cR (cR (cR (cR (cR (cR C11))))))))) (cR (cR (cR (cR (cR (cR (cR (cR (cR C11)))))))))) by kernel_rfl)).trans (kCode_seq ..)
theorem R11_26_eq (n : Nat) (call : CallF) (f : Nat → Option AV) (df : Defs) (h : Heap) (nx : Nat) (K : KX CRes) : R11_26 n call (.fn f) df h nx K =
  R11_32 n call (.fn f) df h nx (kThen (R11_33 n call) K) :=
  (congrArg (fun c => kCode (β := CRes) Tryz.prog 302 9 8148143878778018081083159906299988461457195067813627367260299259913524433008524322647564288 c n call (.fn f) df h nx K) (show (cL (cL (cR (cL (cR (cR (cR (cR (cR C11))))))))) = (.seq (cL (cL (cL (cR (cL (cR (cR (cR (cR (cR C11)))))))))) (cR (cL (cL (cR (cL (cR (cR (cR (cR (cR C11))))))))))) by kernel_rfl)).trans (kCode_seq ..)
theorem R11_27_eq (n : Nat) (call : CallF) (f : Nat → Option AV) (df : Defs) (h : Heap) (nx : Nat) (K : KX CRes) : R11_27 n call (.fn f) df h nx K =
  kLoop (R11_34 n call) n (.fn f) df h nx K :=
  (congrArg (fun c => kCode (β := CRes) Tryz.prog 302 9 8148143878778018081083159906299988461457195067813627367260299259913524433008524322647564288 c n call (.fn f) df h nx K) (show (cL (cR (cL (cR (cR (cR (cR (cR (cR C11))))))))) = (.loop (cL (cL (cR (cL (cR (cR (cR (cR (cR (cR C11))))))))))) by kernel_rfl)).trans (kCode_loop ..)
theorem R11_28_eq (n : Nat) (call : CallF) (f : Nat → Option AV) (df : Defs) (h : Heap) (nx : Nat) (K : KX CRes) : R11_28 n call (.fn f) df h nx K =
  bd (bd (f 1) fun v108 => (adr 3 v108)) fun v109 =>
  bd (ld1 h v109) fun v110 =>
  bd (lenSl v110) fun v111 =>
  K h nx .normal (.fn (tmL f [(239, (.int .i64 0)), (238, v111)])) df := by kernel_rfl
theorem R11_29_eq (n : Nat) (call : CallF) (f : Nat → Option AV) (df : Defs) (h : Heap) (nx : Nat) (K : KX CRes) : R11_29 n call (.fn f) df h nx K =
  R11_35 n call (.fn f) df h nx (kLeave 12 K) :=
  (congrArg (fun c => kCode (β := CRes) Tryz.prog 302 9 8148143878778018081083159906299988461457195067813627367260299259913524433008524322647564288 c n call (.fn f) df h nx K) (show (cR (cL (cR (cR (cR (cR (cR (cR (cR C11))))))))) = (.block 12 (cL (cR (cL (cR (cR (cR (cR (cR (cR (cR C11))))))))))) by kernel_rfl)).trans (kCode_block ..)
theorem R11_30_eq (n : Nat) (call : CallF) (f : Nat → Option AV) (df : Defs) (h : Heap) (nx : Nat) (K : KX CRes) : R11_30 n call (.fn f) df h nx K =
  R11_36 n call (.fn f) df h nx (kThen (R11_37 n call) K) :=
  (congrArg (fun c => kCode (β := CRes) Tryz.prog 302 9 8148143878778018081083159906299988461457195067813627367260299259913524433008524322647564288 c n call (.fn f) df h nx K) (show (cL (cR (cR (cR (cR (cR (cR (cR (cR C11))))))))) = (.seq (cL (cL (cR (cR (cR (cR (cR (cR (cR (cR C11)))))))))) (cR (cL (cR (cR (cR (cR (cR (cR (cR (cR C11))))))))))) by kernel_rfl)).trans (kCode_seq ..)
theorem R11_31_eq (n : Nat) (call : CallF) (f : Nat → Option AV) (df : Defs) (h : Heap) (nx : Nat) (K : KX CRes) : R11_31 n call (.fn f) df h nx K =
  bd (f 4) fun v112 =>
  bd (binV .leq (eqT Tryz.prog 8 3) true (!(Tryz.prog.eqGuardType Tryz.prog.depth 3)) (.int .i64 4000) v112) fun v113 =>
  bd (wantV true v113) fun b114 => bd (sl b114 ((f 3)) (some (.tuple []))) fun v115 =>
  bd (wantV true v113) fun b116 => bd (sl b116 (clR call 18 [v115] h nx) (some (.val (.tuple []) h nx))) (ares (fun v117 h118 n119 =>
  bd (pickV v113 v117 (.bool false)) fun v120 =>
  K h118 n119 .ret (.fn (tmL f [(2, v120)])) df) (fun v121 h122 n123 => K h122 n123 (.pan v121) (.fn f) df)) := by kernel_rfl
theorem R11_32_eq (n : Nat) (call : CallF) (f : Nat → Option AV) (df : Defs) (h : Heap) (nx : Nat) (K : KX CRes) : R11_32 n call (.fn f) df h nx K =
  bd (bd (f 71) fun v124 => bd (f 70) fun v125 => (binV .lss (eqT Tryz.prog 8 3) false (!(Tryz.prog.eqGuardType Tryz.prog.depth 3)) v125 v124)) fun v126 =>
  K h nx .normal (.fn (tmL f [(72, v126)])) df := by kernel_rfl
theorem R11_33_eq (n : Nat) (call : CallF) (f : Nat → Option AV) (df : Defs) (h : Heap) (nx : Nat) (K : KX CRes) : R11_33 n call (.fn f) df h nx K =
  R11_38 n call (.fn f) df h nx (kThen (R11_39 n call) K) :=
  (congrArg (fun c => kCode (β := CRes) Tryz.prog 302 9 8148143878778018081083159906299988461457195067813627367260299259913524433008524322647564288 c n call (.fn f) df h nx K) (show (cR (cL (cL (cR (cL (cR (cR (cR (cR (cR C11)))))))))) = (.seq (cL (cR (cL (cL (cR (cL (cR (cR (cR (cR (cR C11))))))))))) (cR (cR (cL (cL (cR (cL (cR (cR (cR (cR (cR C11)))))))))))) by kernel_rfl)).trans (kCode_seq ..)
theorem R11_34_eq (n : Nat) (call : CallF) (f : Nat → Option AV) (df : Defs) (h : Heap) (nx : Nat) (K : KX CRes) : R11_34 n call (.fn f) df h nx K =
  R11_40 n call (.fn f) df h nx (kThen (R11_41 n call) K) :=
  (congrArg (fun c => kCode (β := CRes) Tryz.prog 302 9 8148143878778018081083159906299988461457195067813627367260299259913524433008524322647564288 c n call (.fn f) df h nx K) (show (cL (cL (cR (cL (cR (cR (cR (cR (cR (cR C11)))))))))) = (.seq (cL (cL (cL (cR (cL (cR (cR (cR (cR (cR (cR C11))))))))))) (cR (cL (cL (cR (cL (cR (cR (cR (cR (cR (cR C11)))))))))))) by kernel_rfl)).trans (kCode_seq ..)
theorem R11_35_eq (n : Nat) (call : CallF) (f : Nat → Option AV) (df : Defs) (h : Heap) (nx : Nat) (K : KX CRes) : R11_35 n call (.fn f) df h nx K =
  kLoop (R11_42 n call) n (.fn f) df h nx K :=
  (congrArg (fun c => kCode (β := CRes) Tryz.prog 302 9 8148143878778018081083159906299988461457195067813627367260299259913524433008524322647564288 c n call (.fn f) df h nx K) (show (cL (cR (cL (cR (cR (cR (cR (cR (cR (cR C11)))))))))) = (.loop (cL (cL (cR (cL (cR (cR (cR (cR (cR (cR (cR C11)))))))))))) by kernel_rfl)).trans (kCode_loop ..)
theorem R11_36_eq (n : Nat) (call : CallF) (f : Nat → Option AV) (df : Defs) (h : Heap) (nx : Nat) (K : KX CRes) : R11_36 n call (.fn f) df h nx K =
  bd (bd (f 1) fun v127 => (adr 4 v127)) fun v128 =>
  bd (ld1 h v128) fun v129 =>
  bd (lenSl v129) fun v130 =>
  K h nx .normal (.fn (tmL f [(272, (.int .i64 0)), (271, v130)])) df := by kernel_rfl
theorem R11_37_eq (n : Nat) (call : CallF) (f : Nat → Option AV) (df : Defs) (h : Heap) (nx : Nat) (K : KX CRes) : R11_37 n call (.fn f) df h nx K =
  R11_43 n call (.fn f) df h nx (kLeave 14 K) :=
  (congrArg (fun c => kCode (β := CRes) Tryz.prog 302 9 8148143878778018081083159906299988461457195067813627367260299259913524433008524322647564288 c n call (.fn f) df h nx K) (show (cR (cL (cR (cR (cR (cR (cR (cR (cR (cR C11)))))))))) = (.block 14 (cL (cR (cL (cR (cR (cR (cR (cR (cR (cR (cR C11)))))))))))) by kernel_rfl)).trans (kCode_block ..)
theorem R11_38_eq (n : Nat) (call : CallF) (f : Nat → Option AV) (df : Defs) (h : Heap) (nx : Nat) (K : KX CRes) : R11_38 n call (.fn f) df h nx K =
  (bd (f 72) fun v132 => onBool v132 fun b131 => sl b131
  (K h nx .normal (.fn f) df)
  (K h nx (.exit 2) (.fn f) df)) := by kernel_rfl
theorem R11_39_eq (n : Nat) (call : CallF) (f : Nat → Option AV) (df : Defs) (h : Heap) (nx : Nat) (K : KX CRes) : R11_39 n call (.fn f) df h nx K =
  R11_44 n call (.fn f) df h nx (kThen (R11_45 n call) K) :=
  (congrArg (fun c => kCode (β := CRes) Tryz.prog 302 9 8148143878778018081083159906299988461457195067813627367260299259913524433008524322647564288 c n call (.fn f) df h nx K) (show (cR (cR (cL (cL (cR (cL (cR (cR (cR (cR (cR C11))))))))))) = (.seq (cL (cR (cR (cL (cL (cR (cL (cR (cR (cR (cR (cR C11)))))))))))) (cR (cR (cR (cL (cL (cR (cL (cR (cR (cR (cR (cR C11))))))))))))) by kernel_rfl)).trans (kCode_seq ..)
theorem R11_40_eq (n : Nat) (call : CallF) (f : Nat → Option AV) (df : Defs) (h : Heap) (nx : Nat) (K : KX CRes) : R11_40 n call (.fn f) df h nx K =
  bd (bd (f 175) fun v133 => bd (f 174) fun v134 => (binV .lss (eqT Tryz.prog 8 3) false (!(Tryz.prog.eqGuardType Tryz.prog.depth 3)) v134 v133)) fun v135 =>
  K h nx .normal (.fn (tmL f [(176, v135)])) df := by kernel_rfl
theorem R11_41_eq (n : Nat) (call : CallF) (f : Nat → Option AV) (df : Defs) (h : Heap) (nx : Nat) (K : KX CRes) : R11_41 n call (.fn f) df h nx K =
  R11_46 n call (.fn f) df h nx (kThen (R11_47 n call) K) :=
  (congrArg (fun c => kCode (β := CRes) Tryz.prog 302 9 8148143878778018081083159906299988461457195067813627367260299259913524433008524322647564288 c n call (.fn f) df h nx K) (show (cR (cL (cL (cR (cL (cR (cR (cR (cR (cR (cR C11))))))))))) = (.seq (cL (cR (cL (cL (cR (cL (cR (cR (cR (cR (cR (cR C11)))))))))))) (cR (cR (cL (cL (cR (cL (cR (cR (cR (cR (cR (cR C11))))))))))))) by kernel_rfl)).trans (kCode_seq ..)
theorem R11_42_eq (n : Nat) (call : CallF) (f : Nat → Option AV) (df : Defs) (h : Heap) (nx : Nat) (K : KX CRes) : R11_42 n call (.fn f) df h nx K =
  bd (bd (f 239) fun v136 => bd (f 238) fun v137 => (binV .lss (eqT Tryz.prog 8 3) false (!(Tryz.prog.eqGuardType Tryz.prog.depth 3)) v137 v136)) fun v138 =>
  onBool v138 fun b139 => sl b139
  (bd (f 239) fun v140 =>
  bd (f 4) fun v141 =>
  bd (bd (f 1) fun v142 => (adr 3 v142)) fun v143 =>
  bd (ld1 h v143) fun v144 =>
  bd (idx 7 v144 v140) fun v145 =>
  bd (adr 0 v145) fun v146 =>
  bd (ld1 h v146) fun v147 =>
  bd (onStr v147 fun m _ => some (.int .i64 (Int.ofNat m))) fun v148 =>
  bd (minV v148 (.int .i64 5000)) fun v149 =>
  bd (binV .add (eqT Tryz.prog 8 3) false (!(Tryz.prog.eqGuardType Tryz.prog.depth 3)) v149 v141) fun v150 =>
  bd (bd ((f 3)) fun v151 => some v151) fun v152 =>
  bd (bd ((bd (f 1) fun v153 => (adr 3 v153))) fun v154 => some v154) fun v155 =>
  bd (bd ((ld1 h v155)) fun v156 => some v156) fun v157 =>
  bd (bd ((idx 7 v157 v140)) fun v158 => some v158) fun v159 =>
  bd (bd ((adr 2 v159)) fun v160 => some v160) fun v161 =>
  bd (bd ((ldA 5 h v161)) fun v162 => some v162) fun v163 =>
  bd (bd ((bd (f 1) fun v164 => (adr 3 v164))) fun v165 => some v165) fun v166 =>
  bd (bd ((ld1 h v166)) fun v167 => some v167) fun v168 =>
  bd (bd ((idx 7 v168 v140)) fun v169 => some v169) fun v170 =>
  bd (bd ((adr 1 v170)) fun v171 => some v171) fun v172 =>
  bd (bd ((ld1 h v172)) fun v173 => some v173) fun v174 =>
  bd (bd ((bld [(.int .i64 0), (.str 0 0), (.str 0 0), (.int .i64 0), .nilslice] [(4, 1, v174)])) fun v175 => some v175) fun v176 =>
  bd (rowR (nx + 14) [(.int .i64 0), (.str 0 0), (.str 0 0), (.int .i64 0), .nilslice] 2 5 [(0, 5, v163), (5, 5, v176)]) fun r177 =>
  letH (hset h (nx + 14) r177.2) (nx + 17) fun h178 _ =>
  bd (appV 5 h178 (nx + 15) (nx + 17) v152 r177.1) (ares (fun v179 h180 n181 =>
  bd (bd (f 239) fun v182 => (binV .add (eqT Tryz.prog 8 3) true (!(Tryz.prog.eqGuardType Tryz.prog.depth 3)) (.int .i64 1) v182)) fun v183 =>
  K h180 n181 .normal (.fn (tmL f [(239, v183), (3, v179), (4, v150), (11, v140), (240, v138)])) df) (fun v184 h185 n186 => K h185 n186 (.pan v184) (.tr .nil) df)))
  (K h nx (.exit 12) (.fn (tmL f [(240, v138)])) df) := by kernel_rfl
theorem R11_43_eq (n : Nat) (call : CallF) (f : Nat → Option AV) (df : Defs) (h : Heap) (nx : Nat) (K : KX CRes) : R11_43 n call (.fn f) df h nx K =
  kLoop (R11_48 n call) n (.fn f) df h nx K :=
  (congrArg (fun c => kCode (β := CRes) Tryz.prog 302 9 8148143878778018081083159906299988461457195067813627367260299259913524433008524322647564288 c n call (.fn f) df h nx K) (show (cL (cR (cL (cR (cR (cR (cR (cR (cR (cR (cR C11))))))))))) = (.loop (cL (cL (cR (cL (cR (cR (cR (cR (cR (cR (cR (cR C11))))))))))))) by kernel_rfl)).trans (kCode_loop ..)
theorem R11_44_eq (n : Nat) (call : CallF) (f : Nat → Option AV) (df : Defs) (h : Heap) (nx : Nat) (K : KX CRes) : R11_44 n call (.fn f) df h nx K =
  R11_49 n call (.fn f) df h nx (kLeave 3 K) :=
  (congrArg (fun c => kCode (β := CRes) Tryz.prog 302 9 8148143878778018081083159906299988461457195067813627367260299259913524433008524322647564288 c n call (.fn f) df h nx K) (show (cL (cR (cR (cL (cL (cR (cL (cR (cR (cR (cR (cR C11)))))))))))) = (.block 3 (cL (cL (cR (cR (cL (cL (cR (cL (cR (cR (cR (cR (cR C11)))))))))))))) by kernel_rfl)).trans (kCode_block ..)
theorem R11_45_eq (n : Nat) (call : CallF) (f : Nat → Option AV) (df : Defs) (h : Heap) (nx : Nat) (K : KX CRes) : R11_45 n call (.fn f) df h nx K =
  bd (bd (f 71) fun v187 => (binV .add (eqT Tryz.prog 8 3) true (!(Tryz.prog.eqGuardType Tryz.prog.depth 3)) (.int .i64 1) v187)) fun v188 =>
  K h nx .normal (.fn (tmL f [(71, v188)])) df := by kernel_rfl
theorem R11_46_eq (n : Nat) (call : CallF) (f : Nat → Option AV) (df : Defs) (h : Heap) (nx : Nat) (K : KX CRes) : R11_46 n call (.fn f) df h nx K =
  (bd (f 176) fun v190 => onBool v190 fun b189 => sl b189
  (K h nx .normal (.fn f) df)
  (K h nx (.exit 8) (.fn f) df)) := by kernel_rfl
theorem R11_47_eq (n : Nat) (call : CallF) (f : Nat → Option AV) (df : Defs) (h : Heap) (nx : Nat) (K : KX CRes) : R11_47 n call (.fn f) df h nx K =
  R11_50 n call (.fn f) df h nx (kThen (R11_51 n call) K) :=
  (congrArg (fun c => kCode (β := CRes) Tryz.prog 302 9 8148143878778018081083159906299988461457195067813627367260299259913524433008524322647564288 c n call (.fn f) df h nx K) (show (cR (cR (cL (cL (cR (cL (cR (cR (cR (cR (cR (cR C11)))))))))))) = (.seq (cL (cR (cR (cL (cL (cR (cL (cR (cR (cR (cR (cR (cR C11))))))))))))) (cR (cR (cR (cL (cL (cR (cL (cR (cR (cR (cR (cR (cR C11)))))))))))))) by kernel_rfl)).trans (kCode_seq ..)
theorem R11_48_eq (n : Nat) (call : CallF) (f : Nat → Option AV) (df : Defs) (h : Heap) (nx : Nat) (K : KX CRes) : R11_48 n call (.fn f) df h nx K =
  bd (bd (f 272) fun v191 => bd (f 271) fun v192 => (binV .lss (eqT Tryz.prog 8 3) false (!(Tryz.prog.eqGuardType Tryz.prog.depth 3)) v192 v191)) fun v193 =>
  onBool v193 fun b194 => sl b194
  (bd (f 272) fun v195 =>
  bd (f 4) fun v196 =>
  bd (bd (f 1) fun v197 => (adr 4 v197)) fun v198 =>
  bd (ld1 h v198) fun v199 =>
  bd (idx 3 v199 v195) fun v200 =>
  bd (adr 1 v200) fun v201 =>
  bd (ld1 h v201) fun v202 =>
  bd (onStr v202 fun m _ => some (.int .i64 (Int.ofNat m))) fun v203 =>
  bd (minV v203 (.int .i64 5000)) fun v204 =>
  bd (binV .add (eqT Tryz.prog 8 3) false (!(Tryz.prog.eqGuardType Tryz.prog.depth 3)) v204 v196) fun v205 =>
  bd (f 3) fun v206 =>
  bd (bd (f 1) fun v207 => (adr 4 v207)) fun v208 =>
  bd (ld1 h v208) fun v209 =>
  bd (idx 3 v209 v195) fun v210 =>
  bd (adr 2 v210) fun v211 =>
  bd (ld1 h v211) fun v212 =>
  bd (bld [(.int .i64 0), (.str 0 0), (.str 0 0), (.int .i64 0), .nilslice] [(4, 1, v212)]) fun v213 =>
  bd (rowR nx [(.int .i64 0), (.str 0 0), (.str 0 0), (.int .i64 0), .nilslice] 1 5 [(0, 5, v213)]) fun r214 =>
  letH (hset h nx r214.2) (Nat.succ nx) fun h215 n216 =>
  bd (appV 5 h215 n216 n216 v206 r214.1) (ares (fun v217 h218 n219 =>
  bd (bd (f 272) fun v220 => (binV .add (eqT Tryz.prog 8 3) true (!(Tryz.prog.eqGuardType Tryz.prog.depth 3)) (.int .i64 1) v220)) fun v221 =>
  K h218 n219 .normal (.fn (tmL f [(272, v221), (3, v217), (4, v205), (12, v195), (273, v193)])) df) (fun v222 h223 n224 => K h223 n224 (.pan v222) (.fn (tmL f [(4, v205), (12, v195), (273, v193)])) df)))
  (K h nx (.exit 14) (.fn (tmL f [(273, v193)])) df) := by kernel_rfl
theorem R11_49_eq (n : Nat) (call : CallF) (f : Nat → Option AV) (df : Defs) (h : Heap) (nx : Nat) (K : KX CRes) : R11_49 n call (.fn f) df h nx K =
  R11_52 n call (.fn f) df h nx (kThen (R11_53 n call) K) :=
  (congrArg (fun c => kCode (β := CRes) Tryz.prog 302 9 8148143878778018081083159906299988461457195067813627367260299259913524433008524322647564288 c n call (.fn f) df h nx K) (show (cL (cL (cR (cR (cL (cL (cR (cL (cR (cR (cR (cR (cR C11))))))))))))) = (.seq (cL (cL (cL (cR (cR (cL (cL (cR (cL (cR (cR (cR (cR (cR C11)))))))))))))) (cR (cL (cL (cR (cR (cL (cL (cR (cL (cR (cR (cR (cR (cR C11))))))))))))))) by kernel_rfl)).trans (kCode_seq ..)
theorem R11_50_eq (n : Nat) (call : CallF) (f : Nat → Option AV) (df : Defs) (h : Heap) (nx : Nat) (K : KX CRes) : R11_50 n call (.fn f) df h nx K =
  R11_54 n call (.fn f) df h nx (kLeave 9 K) :=
  (congrArg (fun c => kCode (β := CRes) Tryz.prog 302 9 8148143878778018081083159906299988461457195067813627367260299259913524433008524322647564288 c n call (.fn f) df h nx K) (show (cL (cR (cR (cL (cL (cR (cL (cR (cR (cR (cR (cR (cR C11))))))))))))) = (.block 9 (cL (cL (cR (cR (cL (cL (cR (cL (cR (cR (cR (cR (cR (cR C11))))))))))))))) by kernel_rfl)).trans (kCode_block ..)
theorem R11_51_eq (n : Nat) (call : CallF) (f : Nat → Option AV) (df : Defs) (h : Heap) (nx : Nat) (K : KX CRes) : R11_51 n call (.fn f) df h nx K =
  bd (bd (f 175) fun v225 => (binV .add (eqT Tryz.prog 8 3) true (!(Tryz.prog.eqGuardType Tryz.prog.depth 3)) (.int .i64 1) v225)) fun v226 =>
  K h nx .normal (.fn (tmL f [(175, v226)])) df := by kernel_rfl
theorem R11_52_eq (n : Nat) (call : CallF) (f : Nat → Option AV) (df : Defs) (h : Heap) (nx : Nat) (K : KX CRes) : R11_52 n call (.fn f) df h nx K =
  bd (f 71) fun v227 =>
  K h nx .normal (.fn (tmL f [(6, v227)])) df := by kernel_rfl
theorem R11_53_eq (n : Nat) (call : CallF) (f : Nat → Option AV) (df : Defs) (h : Heap) (nx : Nat) (K : KX CRes) : R11_53 n call (.fn f) df h nx K =
  R11_55 n call (.fn f) df h nx (kThen (R11_56 n call) K) :=
  (congrArg (fun c => kCode (β := CRes) Tryz.prog 302 9 8148143878778018081083159906299988461457195067813627367260299259913524433008524322647564288 c n call (.fn f) df h nx K) (show (cR (cL (cL (cR (cR (cL (cL (cR (cL (cR (cR (cR (cR (cR C11)))))))))))))) = (.seq (cL (cR (cL (cL (cR (cR (cL (cL (cR (cL (cR (cR (cR (cR (cR C11))))))))))))))) (cR (cR (cL (cL (cR (cR (cL (cL (cR (cL (cR (cR (cR (cR (cR C11)))))))))))))))) by kernel_rfl)).trans (kCode_seq ..)
theorem R11_54_eq (n : Nat) (call : CallF) (f : Nat → Option AV) (df : Defs) (h : Heap) (nx : Nat) (K : KX CRes) : R11_54 n call (.fn f) df h nx K =
  R11_57 n call (.fn f) df h nx (kThen (R11_58 n call) K) :=
  (congrArg (fun c => kCode (β := CRes) Tryz.prog 302 9 8148143878778018081083159906299988461457195067813627367260299259913524433008524322647564288 c n call (.fn f) df h nx K) (show (cL (cL (cR (cR (cL (cL (cR (cL (cR (cR (cR (cR (cR (cR C11)))))))))))))) = (.seq (cL (cL (cL (cR (cR (cL (cL (cR (cL (cR (cR (cR (cR (cR (cR C11))))))))))))))) (cR (cL (cL (cR (cR (cL (cL (cR (cL (cR (cR (cR (cR (cR (cR C11)))))))))))))))) by kernel_rfl)).trans (kCode_seq ..)
theorem R11_55_eq (n : Nat) (call : CallF) (f : Nat → Option AV) (df : Defs) (h : Heap) (nx : Nat) (K : KX CRes) : R11_55 n call (.fn f) df h nx K =
  bd (bd ((f 4)) fun v228 => some v228) fun v229 =>
  bd (bd ((bd (f 1) fun v230 => (adr 1 v230))) fun v231 => some v231) fun v232 =>
  bd (bd ((ld1 h v232)) fun v233 => some v233) fun v234 =>
  bd (bd ((f 6)) fun v235 => some v235) fun v236 =>
  bd (bd ((idx 3 v234 v236)) fun v237 => some v237) fun v238 =>
  bd (bd ((adr 0 v238)) fun v239 => some v239) fun v240 =>
  bd (bd ((ld1 h v240)) fun v241 => some v241) fun v242 =>
  bd (bd ((onStr v242 fun m _ => some (.int .i64 (Int.ofNat m)))) fun v243 => some v243) fun v244 =>
  bd (bd ((minV v244 (.int .i64 5000))) fun v245 => some v245) fun v246 =>
  bd (bd ((binV .add (eqT Tryz.prog 8 3) false (!(Tryz.prog.eqGuardType Tryz.prog.depth 3)) v246 v229)) fun v247 => some v247) fun v248 =>
  bd (bd ((bd (f 1) fun v249 => (adr 1 v249))) fun v250 => some v250) fun v251 =>
  bd (bd ((ld1 h v251)) fun v252 => some v252) fun v253 =>
  bd (bd ((f 6)) fun v254 => some v254) fun v255 =>
  bd (bd ((idx 3 v253 v255)) fun v256 => some v256) fun v257 =>
  bd (bd ((adr 1 v257)) fun v258 => some v258) fun v259 =>
  bd (bd ((ld1 h v259)) fun v260 => some v260) fun v261 =>
  bd (bd ((lenSl v261)) fun v262 => some v262) fun v263 =>
  bd (bd ((minV v263 (.int .i64 5000))) fun v264 => some v264) fun v265 =>
  bd (bd ((binV .mul (eqT Tryz.prog 8 3) true (!(Tryz.prog.eqGuardType Tryz.prog.depth 3)) v265 (.int .i64 20))) fun v266 => some v266) fun v267 =>
  bd (bd ((binV .add (eqT Tryz.prog 8 3) false (!(Tryz.prog.eqGuardType Tryz.prog.depth 3)) v267 v248)) fun v268 => some v268) fun v269 =>
  bd (bd ((bd (f 1) fun v270 => (adr 1 v270))) fun v271 => some v271) fun v272 =>
  bd (bd ((ld1 h v272)) fun v273 => some v273) fun v274 =>
  bd (bd ((f 6)) fun v275 => some v275) fun v276 =>
  bd (bd ((idx 3 v274 v276)) fun v277 => some v277) fun v278 =>
  bd (bd ((adr 2 v278)) fun v279 => some v279) fun v280 =>
  bd (bd ((ld1 h v280)) fun v281 => some v281) fun v282 =>
  bd (bd ((lenSl v282)) fun v283 => some v283) fun v284 =>
  bd (bd ((minV v284 (.int .i64 5000))) fun v285 => some v285) fun v286 =>
  bd (bd ((binV .mul (eqT Tryz.prog 8 3) true (!(Tryz.prog.eqGuardType Tryz.prog.depth 3)) v286 (.int .i64 20))) fun v287 => some v287) fun v288 =>
  bd (bd ((binV .add (eqT Tryz.prog 8 3) false (!(Tryz.prog.eqGuardType Tryz.prog.depth 3)) v288 v269)) fun v289 => some v289) fun v290 =>
  K h (nx + 31) .normal (.fn (tmL f [(4, v290)])) df := by kernel_rfl
theorem R11_56_eq (n : Nat) (call : CallF) (f : Nat → Option AV) (df : Defs) (h : Heap) (nx : Nat) (K : KX CRes) : R11_56 n call (.fn f) df h nx K =
  R11_59 n call (.fn f) df h nx (kThen (R11_60 n call) K) :=
  (congrArg (fun c => kCode (β := CRes) Tryz.prog 302 9 8148143878778018081083159906299988461457195067813627367260299259913524433008524322647564288 c n call (.fn f) df h nx K) (show (cR (cR (cL (cL (cR (cR (cL (cL (cR (cL (cR (cR (cR (cR (cR C11))))))))))))))) = (.seq (cL (cR (cR (cL (cL (cR (cR (cL (cL (cR (cL (cR (cR (cR (cR (cR C11)))))))))))))))) (cR (cR (cR (cL (cL (cR (cR (cL (cL (cR (cL (cR (cR (cR (cR (cR C11))))))))))))))))) by kernel_rfl)).trans (kCode_seq ..)
theorem R11_57_eq (n : Nat) (call : CallF) (f : Nat → Option AV) (df : Defs) (h : Heap) (nx : Nat) (K : KX CRes) : R11_57 n call (.fn f) df h nx K =
  bd (f 175) fun v291 =>
  K h nx .normal (.fn (tmL f [(9, v291)])) df := by kernel_rfl
theorem R11_58_eq (n : Nat) (call : CallF) (f : Nat → Option AV) (df : Defs) (h : Heap) (nx : Nat) (K : KX CRes) : R11_58 n call (.fn f) df h nx K =
  R11_61 n call (.fn f) df h nx (kThen (R11_62 n call) K) :=
  (congrArg (fun c => kCode (β := CRes) Tryz.prog 302 9 8148143878778018081083159906299988461457195067813627367260299259913524433008524322647564288 c n call (.fn f) df h nx K) (show (cR (cL (cL (cR (cR (cL (cL (cR (cL (cR (cR (cR (cR (cR (cR C11))))))))))))))) = (.seq (cL (cR (cL (cL (cR (cR (cL (cL (cR (cL (cR (cR (cR (cR (cR (cR C11)))))))))))))))) (cR (cR (cL (cL (cR (cR (cL (cL (cR (cL (cR (cR (cR (cR (cR (cR C11))))))))))))))))) by kernel_rfl)).trans (kCode_seq ..)
theorem R11_59_eq (n : Nat) (call : CallF) (f : Nat → Option AV) (df : Defs) (h : Heap) (nx : Nat) (K : KX CRes) : R11_59 n call (.fn f) df h nx K =
  R11_63 n call (.fn f) df h nx (kThen (R11_64 n call) K) :=
  (congrArg (fun c => kCode (β := CRes) Tryz.prog 302 9 8148143878778018081083159906299988461457195067813627367260299259913524433008524322647564288 c n call (.fn f) df h nx K) (show (cL (cR (cR (cL (cL (cR (cR (cL (cL (cR (cL (cR (cR (cR (cR (cR C11)))))))))))))))) = (.seq (cL (cL (cR (cR (cL (cL (cR (cR (cL (cL (cR (cL (cR (cR (cR (cR (cR C11))))))))))))))))) (cR (cL (cR (cR (cL (cL (cR (cR (cL (cL (cR (cL (cR (cR (cR (cR (cR C11)))))))))))))))))) by kernel_rfl)).trans (kCode_seq ..)
theorem R11_60_eq (n : Nat) (call : CallF) (f : Nat → Option AV) (df : Defs) (h : Heap) (nx : Nat) (K : KX CRes) : R11_60 n call (.fn f) df h nx K =
  R11_65 n call (.fn f) df h nx (kThen (R11_66 n call) K) :=
  (congrArg (fun c => kCode (β := CRes) Tryz.prog 302 9 8148143878778018081083159906299988461457195067813627367260299259913524433008524322647564288 c n call (.fn f) df h nx K) (show (cR (cR (cR (cL (cL (cR (cR (cL (cL (cR (cL (cR (cR (cR (cR (cR C11)))))))))))))))) = (.seq (cL (cR (cR (cR (cL (cL (cR (cR (cL (cL (cR (cL (cR (cR (cR (cR (cR C11))))))))))))))))) (cR (cR (cR (cR (cL (cL (cR (cR (cL (cL (cR (cL (cR (cR (cR (cR (cR C11)))))))))))))))))) by kernel_rfl)).trans (kCode_seq ..)
theorem R11_61_eq (n : Nat) (call : CallF) (f : Nat → Option AV) (df : Defs) (h : Heap) (nx : Nat) (K : KX CRes) : R11_61 n call (.fn f) df h nx K =
  bd (bd ((f 4)) fun v292 => some v292) fun v293 =>
  bd (bd ((bd (f 1) fun v294 => (adr 2 v294))) fun v295 => some v295) fun v296 =>
  bd (bd ((ld1 h v296)) fun v297 => some v297) fun v298 =>
  bd (bd ((f 9)) fun v299 => some v299) fun v300 =>
  bd (bd ((idx 7 v298 v300)) fun v301 => some v301) fun v302 =>
  bd (bd ((adr 0 v302)) fun v303 => some v303) fun v304 =>
  bd (bd ((ld1 h v304)) fun v305 => some v305) fun v306 =>
  bd (bd ((onStr v306 fun m _ => some (.int .i64 (Int.ofNat m)))) fun v307 => some v307) fun v308 =>
  bd (bd ((minV v308 (.int .i64 5000))) fun v309 => some v309) fun v310 =>
  bd (bd ((binV .add (eqT Tryz.prog 8 3) false (!(Tryz.prog.eqGuardType Tryz.prog.depth 3)) v310 v293)) fun v311 => some v311) fun v312 =>
  bd (bd ((bd (f 1) fun v313 => (adr 2 v313))) fun v314 => some v314) fun v315 =>
  bd (bd ((ld1 h v315)) fun v316 => some v316) fun v317 =>
  bd (bd ((f 9)) fun v318 => some v318) fun v319 =>
  bd (bd ((idx 7 v317 v319)) fun v320 => some v320) fun v321 =>
  bd (bd ((adr 1 v321)) fun v322 => some v322) fun v323 =>
  bd (bd ((ld1 h v323)) fun v324 => some v324) fun v325 =>
  bd (bd ((lenSl v325)) fun v326 => some v326) fun v327 =>
  bd (bd ((minV v327 (.int .i64 5000))) fun v328 => some v328) fun v329 =>
  bd (bd ((binV .mul (eqT Tryz.prog 8 3) true (!(Tryz.prog.eqGuardType Tryz.prog.depth 3)) v329 (.int .i64 20))) fun v330 => some v330) fun v331 =>
  bd (bd ((binV .add (eqT Tryz.prog 8 3) false (!(Tryz.prog.eqGuardType Tryz.prog.depth 3)) v331 v312)) fun v332 => some v332) fun v333 =>
  K h (nx + 21) .normal (.fn (tmL f [(4, v333)])) df := by kernel_rfl
theorem R11_62_eq (n : Nat) (call : CallF) (f : Nat → Option AV) (df : Defs) (h : Heap) (nx : Nat) (K : KX CRes) : R11_62 n call (.fn f) df h nx K =
  R11_67 n call (.fn f) df h nx (kThen (R11_68 n call) K) :=
  (congrArg (fun c => kCode (β := CRes) Tryz.prog 302 9 8148143878778018081083159906299988461457195067813627367260299259913524433008524322647564288 c n call (.fn f) df h nx K) (show (cR (cR (cL (cL (cR (cR (cL (cL (cR (cL (cR (cR (cR (cR (cR (cR C11)))))))))))))))) = (.seq (cL (cR (cR (cL (cL (cR (cR (cL (cL (cR (cL (cR (cR (cR (cR (cR (cR C11))))))))))))))))) (cR (cR (cR (cL (cL (cR (cR (cL (cL (cR (cL (cR (cR (cR (cR (cR (cR C11)))))))))))))))))) by kernel_rfl)).trans (kCode_seq ..)
theorem R11_63_eq (n : Nat) (call : CallF) (f : Nat → Option AV) (df : Defs) (h : Heap) (nx : Nat) (K : KX CRes) : R11_63 n call (.fn f) df h nx K =
  K h nx .normal (.fn (tmL f [(7, (.int .i64 0))])) df := by kernel_rfl
theorem R11_64_eq (n : Nat) (call : CallF) (f : Nat → Option AV) (df : Defs) (h : Heap) (nx : Nat) (K : KX CRes) : R11_64 n call (.fn f) df h nx K =
  R11_69 n call (.fn f) df h nx (kLeave 4 K) :=
  (congrArg (fun c => kCode (β := CRes) Tryz.prog 302 9 8148143878778018081083159906299988461457195067813627367260299259913524433008524322647564288 c n call (.fn f) df h nx K) (show (cR (cL (cR (cR (cL (cL (cR (cR (cL (cL (cR (cL (cR (cR (cR (cR (cR C11))))))))))))))))) = (.block 4 (cL (cR (cL (cR (cR (cL (cL (cR (cR (cL (cL (cR (cL (cR (cR (cR (cR (cR C11))))))))))))))))))) by kernel_rfl)).trans (kCode_block ..)
theorem R11_65_eq (n : Nat) (call : CallF) (f : Nat → Option AV) (df : Defs) (h : Heap) (nx : Nat) (K : KX CRes) : R11_65 n call (.fn f) df h nx K =
  K h nx .normal (.fn (tmL f [(8, (.int .i64 0))])) df := by kernel_rfl
theorem R11_66_eq (n : Nat) (call : CallF) (f : Nat → Option AV) (df : Defs) (h : Heap) (nx : Nat) (K : KX CRes) : R11_66 n call (.fn f) df h nx K =
  R11_70 n call (.fn f) df h nx (kLeave 6 K) :=
  (congrArg (fun c => kCode (β := CRes) Tryz.prog 302 9 8148143878778018081083159906299988461457195067813627367260299259913524433008524322647564288 c n call (.fn f) df h nx K) (show (cR (cR (cR (cR (cL (cL (cR (cR (cL (cL (cR (cL (cR (cR (cR (cR (cR C11))))))))))))))))) = (.block 6 (cL (cR (cR (cR (cR (cL (cL (cR (cR (cL (cL (cR (cL (cR (cR (cR (cR (cR C11))))))))))))))))))) by kernel_rfl)).trans (kCode_block ..)
theorem R11_67_eq (n : Nat) (call : CallF) (f : Nat → Option AV) (df : Defs) (h : Heap) (nx : Nat) (K : KX CRes) : R11_67 n call (.fn f) df h nx K =
  bd (f 3) fun v334 =>
  bd (bd (f 1) fun v335 => (adr 2 v335)) fun v336 =>
  bd (ld1 h v336) fun v337 =>
  bd (f 9) fun v338 =>
  bd (idx 7 v337 v338) fun v339 =>
  bd (adr 2 v339) fun v340 =>
  bd (ldA 5 h v340) fun v341 =>
  bd (rowR nx [(.int .i64 0), (.str 0 0), (.str 0 0), (.int .i64 0), .nilslice] 1 5 [(0, 5, v341)]) fun r342 =>
  letH (hset h nx r342.2) (Nat.succ nx) fun h343 n344 =>
  bd (appV 5 h343 n344 n344 v334 r342.1) (ares (fun v345 h346 n347 =>
  K h346 n347 .normal (.fn (tmL f [(3, v345)])) df) (fun v348 h349 n350 => K h349 n350 (.pan v348) (.fn f) df)) := by kernel_rfl
theorem R11_68_eq (n : Nat) (call : CallF) (f : Nat → Option AV) (df : Defs) (h : Heap) (nx : Nat) (K : KX CRes) : R11_68 n call (.fn f) df h nx K =
  R11_71 n call (.fn f) df h nx (kThen (R11_72 n call) K) :=
  (congrArg (fun c => kCode (β := CRes) Tryz.prog 302 9 8148143878778018081083159906299988461457195067813627367260299259913524433008524322647564288 c n call (.fn f) df h nx K) (show (cR (cR (cR (cL (cL (cR (cR (cL (cL (cR (cL (cR (cR (cR (cR (cR (cR C11))))))))))))))))) = (.seq (cL (cR (cR (cR (cL (cL (cR (cR (cL (cL (cR (cL (cR (cR (cR (cR (cR (cR C11)))))))))))))))))) (cR (cR (cR (cR (cL (cL (cR (cR (cL (cL (cR (cL (cR (cR (cR (cR (cR (cR C11))))))))))))))))))) by kernel_rfl)).trans (kCode_seq ..)
theorem R11_69_eq (n : Nat) (call : CallF) (f : Nat → Option AV) (df : Defs) (h : Heap) (nx : Nat) (K : KX CRes) : R11_69 n call (.fn f) df h nx K =
  kLoop (R11_73 n call) n (.fn f) df h nx K :=
  (congrArg (fun c => kCode (β := CRes) Tryz.prog 302 9 8148143878778018081083159906299988461457195067813627367260299259913524433008524322647564288 c n call (.fn f) df h nx K) (show (cL (cR (cL (cR (cR (cL (cL (cR (cR (cL (cL (cR (cL (cR (cR (cR (cR (cR C11)))))))))))))))))) = (.loop (cL (cL (cR (cL (cR (cR (cL (cL (cR (cR (cL (cL (cR (cL (cR (cR (cR (cR (cR C11)))))))))))))))))))) by kernel_rfl)).trans (kCode_loop ..)
theorem R11_70_eq (n : Nat) (call : CallF) (f : Nat → Option AV) (df : Defs) (h : Heap) (nx : Nat) (K : KX CRes) : R11_70 n call (.fn f) df h nx K =
  kLoop (R11_74 n call) n (.fn f) df h nx K :=
  (congrArg (fun c => kCode (β := CRes) Tryz.prog 302 9 8148143878778018081083159906299988461457195067813627367260299259913524433008524322647564288 c n call (.fn f) df h nx K) (show (cL (cR (cR (cR (cR (cL (cL (cR (cR (cL (cL (cR (cL (cR (cR (cR (cR (cR C11)))))))))))))))))) = (.loop (cL (cL (cR (cR (cR (cR (cL (cL (cR (cR (cL (cL (cR (cL (cR (cR (cR (cR (cR C11)))))))))))))))))))) by kernel_rfl)).trans (kCode_loop ..)
theorem R11_71_eq (n : Nat) (call : CallF) (f : Nat → Option AV) (df : Defs) (h : Heap) (nx : Nat) (K : KX CRes) : R11_71 n call (.fn f) df h nx K =
  K h nx .normal (.fn (tmL f [(10, (.int .i64 0))])) df := by kernel_rfl
theorem R11_72_eq (n : Nat) (call : CallF) (f : Nat → Option AV) (df : Defs) (h : Heap) (nx : Nat) (K : KX CRes) : R11_72 n call (.fn f) df h nx K =
  R11_75 n call (.fn f) df h nx (kLeave 10 K) :=
  (congrArg (fun c => kCode (β := CRes) Tryz.prog 302 9 8148143878778018081083159906299988461457195067813627367260299259913524433008524322647564288 c n call (.fn f) df h nx K) (show (cR (cR (cR (cR (cL (cL (cR (cR (cL (cL (cR (cL (cR (cR (cR (cR (cR (cR C11)))))))))))))))))) = (.block 10 (cL (cR (cR (cR (cR (cL (cL (cR (cR (cL (cL (cR (cL (cR (cR (cR (cR (cR (cR C11)))))))))))))))))))) by kernel_rfl)).trans (kCode_block ..)
theorem R11_73_eq (n : Nat) (call : CallF) (f : Nat → Option AV) (df : Defs) (h : Heap) (nx : Nat) (K : KX CRes) : R11_73 n call (.fn f) df h nx K =
  bd (f 7) fun v351 =>
  bd (bd (f 1) fun v352 => (adr 1 v352)) fun v353 =>
  bd (ld1 h v353) fun v354 =>
  bd (f 6) fun v355 =>
  bd (idx 3 v354 v355) fun v356 =>
  bd (adr 2 v356) fun v357 =>
  bd (ld1 h v357) fun v358 =>
  bd (lenSl v358) fun v359 =>
  bd (binV .lss (eqT Tryz.prog 8 3) false (!(Tryz.prog.eqGuardType Tryz.prog.depth 3)) v359 v351) fun v360 =>
  bd (wantV true v360) fun b361 => bd (sl b361 ((f 7)) (some (.tuple []))) fun v362 =>
  bd (wantV true v360) fun b363 => bd (sl b363 ((binV .lss (eqT Tryz.prog 8 3) true (!(Tryz.prog.eqGuardType Tryz.prog.depth 3)) (.int .i64 60) v362)) (some (.tuple []))) fun v364 =>
  bd (pickV v360 v364 (.bool false)) fun v365 =>
  onBool v365 fun b366 => sl b366
  (bd (bd ((f 3)) fun v367 => some v367) fun v368 =>
  bd (bd ((bd (f 1) fun v369 => (adr 1 v369))) fun v370 => some v370) fun v371 =>
  bd (bd ((ld1 h v371)) fun v372 => some v372) fun v373 =>
  bd (bd ((f 6)) fun v374 => some v374) fun v375 =>
  bd (bd ((idx 3 v373 v375)) fun v376 => some v376) fun v377 =>
  bd (bd ((adr 2 v377)) fun v378 => some v378) fun v379 =>
  bd (bd ((ld1 h v379)) fun v380 => some v380) fun v381 =>
  bd (bd ((f 7)) fun v382 => some v382) fun v383 =>
  bd (bd ((idx 2 v381 v383)) fun v384 => some v384) fun v385 =>
  bd (bd ((adr 0 v385)) fun v386 => some v386) fun v387 =>
  bd (bd ((ld1 h v387)) fun v388 => some v388) fun v389 =>
  bd (bd ((bd (f 1) fun v390 => (adr 1 v390))) fun v391 => some v391) fun v392 =>
  bd (bd ((ld1 h v392)) fun v393 => some v393) fun v394 =>
  bd (bd ((f 6)) fun v395 => some v395) fun v396 =>
  bd (bd ((idx 3 v394 v396)) fun v397 => some v397) fun v398 =>
  bd (bd ((adr 2 v398)) fun v399 => some v399) fun v400 =>
  bd (bd ((ld1 h v400)) fun v401 => some v401) fun v402 =>
  bd (bd ((f 7)) fun v403 => some v403) fun v404 =>
  bd (bd ((idx 2 v402 v404)) fun v405 => some v405) fun v406 =>
  bd (bd ((adr 1 v406)) fun v407 => some v407) fun v408 =>
  bd (bd ((ld1 h v408)) fun v409 => some v409) fun v410 =>
  bd (bd ((bld [(.int .i64 0), (.str 0 0), (.str 0 0), (.int .i64 0), .nilslice] [(2, 1, v389), (4, 1, v410)])) fun v411 => some v411) fun v412 =>
  bd (rowR (nx + 22) [(.int .i64 0), (.str 0 0), (.str 0 0), (.int .i64 0), .nilslice] 1 5 [(0, 5, v412)]) fun r413 =>
  letH (hset h (nx + 22) r413.2) (nx + 25) fun h414 _ =>
  bd (appV 5 h414 (nx + 23) (nx + 25) v368 r413.1) (ares (fun v415 h416 n417 =>
  bd (f 7) fun v418 =>
  bd (binV .add (eqT Tryz.prog 8 3) true (!(Tryz.prog.eqGuardType Tryz.prog.depth 3)) (.int .i64 1) v418) fun v419 =>
  K h416 n417 .normal (.fn (tmL f [(7, v419), (3, v415), (116, v365)])) df) (fun v420 h421 n422 => K h421 n422 (.pan v420) (.tr .nil) df)))
  (K h nx (.exit 4) (.fn (tmL f [(116, v365)])) df) := by kernel_rfl
theorem R11_74_eq (n : Nat) (call : CallF) (f : Nat → Option AV) (df : Defs) (h : Heap) (nx : Nat) (K : KX CRes) : R11_74 n call (.fn f) df h nx K =
  bd (f 8) fun v423 =>
  bd (bd (f 1) fun v424 => (adr 1 v424)) fun v425 =>
  bd (ld1 h v425) fun v426 =>
  bd (f 6) fun v427 =>
  bd (idx 3 v426 v427) fun v428 =>
  bd (adr 1 v428) fun v429 =>
  bd (ld1 h v429) fun v430 =>
  bd (lenSl v430) fun v431 =>
  bd (binV .lss (eqT Tryz.prog 8 3) false (!(Tryz.prog.eqGuardType Tryz.prog.depth 3)) v431 v423) fun v432 =>
  bd (wantV true v432) fun b433 => bd (sl b433 ((f 8)) (some (.tuple []))) fun v434 =>
  bd (wantV true v432) fun b435 => bd (sl b435 ((binV .lss (eqT Tryz.prog 8 3) true (!(Tryz.prog.eqGuardType Tryz.prog.depth 3)) (.int .i64 60) v434)) (some (.tuple []))) fun v436 =>
  bd (pickV v432 v436 (.bool false)) fun v437 =>
  onBool v437 fun b438 => sl b438
  (bd (f 4) fun v439 =>
  bd (bd (f 1) fun v440 => (adr 1 v440)) fun v441 =>
  bd (ld1 h v441) fun v442 =>
  bd (f 6) fun v443 =>
  bd (idx 3 v442 v443) fun v444 =>
  bd (adr 1 v444) fun v445 =>
  bd (ld1 h v445) fun v446 =>
  bd (f 8) fun v447 =>
  bd (idx 1 v446 v447) fun v448 =>
  bd (ld1 h v448) fun v449 =>
  bd (onStr v449 fun m _ => some (.int .i64 (Int.ofNat m))) fun v450 =>
  bd (minV v450 (.int .i64 5000)) fun v451 =>
  bd (binV .add (eqT Tryz.prog 8 3) false (!(Tryz.prog.eqGuardType Tryz.prog.depth 3)) v451 v439) fun v452 =>
  bd (f 8) fun v453 =>
  bd (binV .add (eqT Tryz.prog 8 3) true (!(Tryz.prog.eqGuardType Tryz.prog.depth 3)) (.int .i64 1) v453) fun v454 =>
  K h nx .normal (.fn (tmL f [(8, v454), (4, v452), (155, v437)])) df)
  (K h nx (.exit 6) (.fn (tmL f [(155, v437)])) df) := by kernel_rfl
theorem R11_75_eq (n : Nat) (call : CallF) (f : Nat → Option AV) (df : Defs) (h : Heap) (nx : Nat) (K : KX CRes) : R11_75 n call (.fn f) df h nx K =
  kLoop (R11_76 n call) n (.fn f) df h nx K :=
  (congrArg (fun c => kCode (β := CRes) Tryz.prog 302 9 8148143878778018081083159906299988461457195067813627367260299259913524433008524322647564288 c n call (.fn f) df h nx K) (show (cL (cR (cR (cR (cR (cL (cL (cR (cR (cL (cL (cR (cL (cR (cR (cR (cR (cR (cR C11))))))))))))))))))) = (.loop (cL (cL (cR (cR (cR (cR (cL (cL (cR (cR (cL (cL (cR (cL (cR (cR (cR (cR (cR (cR C11))))))))))))))))))))) by kernel_rfl)).trans (kCode_loop ..)
theorem R11_76_eq (n : Nat) (call : CallF) (f : Nat → Option AV) (df : Defs) (h : Heap) (nx : Nat) (K : KX CRes) : R11_76 n call (.fn f) df h nx K =
  bd (f 10) fun v455 =>
  bd (bd (f 1) fun v456 => (adr 2 v456)) fun v457 =>
  bd (ld1 h v457) fun v458 =>
  bd (f 9) fun v459 =>
  bd (idx 7 v458 v459) fun v460 =>
  bd (adr 1 v460) fun v461 =>
  bd (ld1 h v461) fun v462 =>
  bd (lenSl v462) fun v463 =>
  bd (binV .lss (eqT Tryz.prog 8 3) false (!(Tryz.prog.eqGuardType Tryz.prog.depth 3)) v463 v455) fun v464 =>
  bd (wantV true v464) fun b465 => bd (sl b465 ((f 10)) (some (.tuple []))) fun v466 =>
  bd (wantV true v464) fun b467 => bd (sl b467 ((binV .lss (eqT Tryz.prog 8 3) true (!(Tryz.prog.eqGuardType Tryz.prog.depth 3)) (.int .i64 60) v466)) (some (.tuple []))) fun v468 =>
  bd (pickV v464 v468 (.bool false)) fun v469 =>
  onBool v469 fun b470 => sl b470
  (bd (f 4) fun v471 =>
  bd (bd (f 1) fun v472 => (adr 2 v472)) fun v473 =>
  bd (ld1 h v473) fun v474 =>
  bd (f 9) fun v475 =>
  bd (idx 7 v474 v475) fun v476 =>
  bd (adr 1 v476) fun v477 =>
  bd (ld1 h v477) fun v478 =>
  bd (f 10) fun v479 =>
  bd (idx 1 v478 v479) fun v480 =>
  bd (ld1 h v480) fun v481 =>
  bd (onStr v481 fun m _ => some (.int .i64 (Int.ofNat m))) fun v482 =>
  bd (minV v482 (.int .i64 5000)) fun v483 =>
  bd (binV .add (eqT Tryz.prog 8 3) false (!(Tryz.prog.eqGuardType Tryz.prog.depth 3)) v483 v471) fun v484 =>
  bd (f 10) fun v485 =>
  bd (binV .add (eqT Tryz.prog 8 3) true (!(Tryz.prog.eqGuardType Tryz.prog.depth 3)) (.int .i64 1) v485) fun v486 =>
  K h nx .normal (.fn (tmL f [(10, v486), (4, v484), (219, v469)])) df)
  (K h nx (.exit 10) (.fn (tmL f [(219, v469)])) df) := by kernel_rfl
theorem E11_normal (n : Nat) (call : CallF) (f : Nat → Option AV) (h : Heap) (nx : Nat) : E11 n call h nx .normal (.fn f) [] = retL [(f 2)] h nx := by kernel_rfl
theorem E11_ret (n : Nat) (call : CallF) (f : Nat → Option AV) (h : Heap) (nx : Nat) : E11 n call h nx .ret (.fn f) [] = retL [(f 2)] h nx := by kernel_rfl
theorem E11_pan (n : Nat) (call : CallF) (v : AV) (tm : TM) (h : Heap) (nx : Nat) : E11 n call h nx (.pan v) tm [] = some (.pan v h nx) := by kernel_rfl
end Go.Proofs.YtaajedkbaahgfaaGreatDoor

/-
What the functions of the law answer: W.Few: the state of its walk, the first loops.
-/
namespace Go.Proofs.YtaajedkbaahgfaaGreatDoor
open Go Go.AE Go.EV
set_option maxRecDepth 100000
set_option maxHeartbeats 2000000
theorem sp11 : spL 11 = none := rfl
/-- what a walk starts from -/
structure W0 where
  B : Nat
  h0 : Heap
  nx0 : Nat
  m : Nat
  σ0 : Sto
  mb : Nat
  M : Md
  ml : List AV
/-- the state between: 'u' bounds what was counted; 'need': what the list must hold -/
structure WS (w : W0) (need : List Tm) (u : Nat) (h : Heap) (nx : Nat) (σ : Sto) (f : Nat → Option AV) : Prop where
  L : Later w.h0 w.nx0 w.m w.σ0 h nx σ
  mod : σ w.mb = some (.cells w.ml)
  rd : RdMd w.B σ w.M w.ml
  f1 : f 1 = some (.ptr w.mb 0)
  out : ∃ ts out, f 3 = some out ∧ OutTB w.B w.nx0 w.m h nx σ ts out ∧ ts.length ≤ 2 * u ∧ ∀ t ∈ need, t ∈ ts
  num : ∃ n : Nat, f 4 = some (.int .i64 (n : Int)) ∧ n ≤ u * 1000000
/-- it comes to some answer -/
def WA (w : W0) (Q : Bool → Prop) (g : Nat → Nat → Option CRes) : Prop := ∃ h' nx' σ' b, Later w.h0 w.nx0 w.m w.σ0 h' nx' σ' ∧ Ev g (.ret (.bool b) h' nx') ∧ Q b
theorem WA.map {w : W0} {Q : Bool → Prop} {g g' : Nat → Nat → Option CRes} (hg : ∀ c, Ev g c → Ev g' c) : WA w Q g → WA w Q g' := fun ⟨h', nx', σ', b, L, e, q⟩ => ⟨h', nx', σ', b, L, hg _ e, q⟩
theorem onS (a b : Nat) : (onStr (.str a b) fun m _ => some (AV.int .i64 (Int.ofNat m))) = some (.int .i64 (a : Int)) := rfl
theorem min_sl (a b : Nat) : sl (ltI (b : Int) (Int.ofNat a)) (b : Int) (Int.ofNat a) = ((min a b : Nat) : Int) := by
  have := min_nat a b; rw [r_minV] at this; injection this with e; injection e
theorem mod_ld {w : W0} {need : List Tm} {u : Nat} {h : Heap} {nx : Nat} {σ : Sto} {f : Nat → Option AV} (s : WS w need u h nx σ f) : hget h w.mb = some (.cells w.ml) := s.L.mem.sat _ _ s.mod
theorem WS.more {w : W0} {need : List Tm} {u : Nat} {h : Heap} {nx : Nat} {σ : Sto} {f : Nat → Option AV} (s : WS w need u h nx σ f) (k : Nat) : Later w.h0 w.nx0 w.m w.σ0 h (nx + k) σ := s.L.trans (s.L.mem.more (by omega))

theorem imports_loop {w : W0} (hB : w.B ≤ 9223372036854775808) (Q : Bool → Prop) (need : List Tm) (K : Nat → Nat → KX CRes) : ∀ (xs : List Imp) (i u : Nat) (h : Heap) (nx : Nat) (σ : Sto) (j : Nat) (f : Nat → Option AV),
    w.M.imports.drop i = xs → u + xs.length ≤ 100000 → WS w need u h nx σ f → f 43 = some (.int .i64 (w.M.imports.length : Int)) → f 44 = some (.int .i64 (i : Int)) →
    (∀ u' h nx σ f, u' ≤ u + xs.length → WS w need u' h nx σ f → WA w Q fun n d => K n d h nx .normal (.fn f) []) →
    WA w Q fun n d => kLoop (R11_20 n (CN n d)) (n - j) (.fn f) [] h nx (kLeave 0 (K n d)) := by
  intro xs
  induction xs with
  | nil =>
    intro i u h nx σ j f hxs hu s f43 f44 hk
    have hge : ¬ i < w.M.imports.length := by have := congrArg List.length hxs; simp at this; omega
    have hlt : ltI (i : Int) (w.M.imports.length : Int) = false := by rw [ltI_nat]; simpa using hge
    obtain ⟨ts, out, f3, ho, hts, hnd⟩ := s.out
    obtain ⟨nn, f4, hn⟩ := s.num
    have := hk u h nx σ (tmL f [(45, .bool false)]) (by simp) ⟨s.L, s.mod, s.rd, by repeat (first | simp -eta only [SY, ↓reduceIte, Nat.reduceEqDiff, Nat.reduceAdd, s.f1] | simp -eta only [KY, ↓reduceIte, Nat.reduceEqDiff]), ⟨ts, out, by repeat (first | simp -eta only [SY, ↓reduceIte, Nat.reduceEqDiff, Nat.reduceAdd, f3] | simp -eta only [KY, ↓reduceIte, Nat.reduceEqDiff]), ho, hts, hnd⟩, ⟨nn, by repeat (first | simp -eta only [SY, ↓reduceIte, Nat.reduceEqDiff, Nat.reduceAdd, f4] | simp -eta only [KY, ↓reduceIte, Nat.reduceEqDiff]), hn⟩⟩
    refine this.map fun c hc => ?_
    refine Ev.round (B := fun n d => R11_20 n (CN n d)) (tm := fun _ _ => .fn f) (K := fun n d => kLeave 0 (K n d)) ?_
    repeat (first | simp -eta only [SY, ↓reduceIte, Nat.reduceEqDiff, Nat.reduceAdd, f43, f44, hlt] | simp -eta only [KY, ↓reduceIte, Nat.reduceEqDiff, R11_20_eq])
    exact hc
  | cons x xs ih =>
    intro i u h nx σ j f hxs hu s f43 f44 hk
    have hi := drop_lt hxs
    have hlt : ltI (i : Int) (w.M.imports.length : Int) = true := by rw [ltI_nat]; simpa using hi
    obtain ⟨ts, out, f3, ho, hts, hnd⟩ := s.out
    obtain ⟨nn, f4, hn⟩ := s.num
    have hgm := mod_ld s
    obtain ⟨v, hv, hrow⟩ := s.rd.imports
    obtain ⟨b, o, cs, hix, hb, ⟨hx0, hx1⟩, _, hbig⟩ := hrow.at hxs
    have hgb := s.L.mem.sat _ _ hb
    have c0 : cs[o + i * 5]? = some (.str x.nick.1 x.nick.2) := by
      rw [← Nat.add_zero (o + i * 5)]; exact (cell_take (n := 5) rfl (by omega)).trans hx0
    have c1 : cs[o + i * 5 + 1]? = some (.str x.pkg.1 x.pkg.2) := (cell_take (n := 5) rfl (by omega)).trans hx1
    have m1 : sl (ltI 5000 (Int.ofNat x.nick.1)) 5000 (Int.ofNat x.nick.1) = ((min x.nick.1 5000 : Nat) : Int) := min_sl x.nick.1 5000
    have m2 : sl (ltI 5000 (Int.ofNat x.pkg.1)) 5000 (Int.ofNat x.pkg.1) = ((min x.pkg.1 5000 : Nat) : Int) := min_sl x.pkg.1 5000
    have a1 := add_nat (a := nn) (b := min x.nick.1 5000) (by omega)
    have a2 := add_nat (a := nn + min x.nick.1 5000) (b := min x.pkg.1 5000) (by omega)
    have hinc := inc_small hi (by omega)
    have hl : (x :: xs).length = xs.length + 1 := rfl
    have hih := ih (i + 1) (u + 1) h (nx + 21) σ (j + 1) (tmL f [(44, .int .i64 ((i + 1 : Nat) : Int)), (4, .int .i64 ((nn + min x.nick.1 5000 + min x.pkg.1 5000 : Nat) : Int)), (5, .int .i64 (i : Int)), (45, .bool true)])
      (drop_tail hxs) (by omega) ⟨s.more 21, s.mod, s.rd, by repeat (first | simp -eta only [SY, ↓reduceIte, Nat.reduceEqDiff, Nat.reduceAdd, s.f1] | simp -eta only [KY, ↓reduceIte, Nat.reduceEqDiff]), ⟨ts, out, by repeat (first | simp -eta only [SY, ↓reduceIte, Nat.reduceEqDiff, Nat.reduceAdd, f3] | simp -eta only [KY, ↓reduceIte, Nat.reduceEqDiff]), ho.up (by omega), by omega, hnd⟩, ⟨nn + min x.nick.1 5000 + min x.pkg.1 5000, by repeat (first | simp -eta only [SY, ↓reduceIte, Nat.reduceEqDiff, Nat.reduceAdd] | simp -eta only [KY, ↓reduceIte, Nat.reduceEqDiff]), by omega⟩⟩ f43 rfl (fun u' h nx σ f h1 h2 => hk u' h nx σ f (by omega) h2)
    refine hih.map fun c hc => ?_
    refine Ev.round (B := fun n d => R11_20 n (CN n d)) (tm := fun _ _ => .fn f) (K := fun n d => kLeave 0 (K n d)) ?_
    repeat (first | simp -eta only [SY, ↓reduceIte, Nat.reduceEqDiff, Nat.reduceAdd, f43, f44, f4, s.f1, hlt, r_loadB _ _ hgm, hv, hix, r_loadB _ _ hgb, c0, c1, m1, m2, a1, a2, hinc] | simp -eta only [KY, ↓reduceIte, Nat.reduceEqDiff, R11_20_eq])
    exact hc
end Go.Proofs.YtaajedkbaahgfaaGreatDoor

/-
What the functions of the law answer: W.Few: the loop of types.
-/
namespace Go.Proofs.YtaajedkbaahgfaaGreatDoor
open Go Go.AE Go.EV
set_option maxRecDepth 100000
set_option maxHeartbeats 2000000
theorem WS.same {w : W0} {need : List Tm} {u u' : Nat} {h : Heap} {nx nx' : Nat} {σ : Sto} {f f' : Nat → Option AV} (s : WS w need u h nx σ f) (hu : u ≤ u') (hn : nx ≤ nx') (h1 : f' 1 = f 1) (h3 : f' 3 = f 3) (h4 : f' 4 = f 4) : WS w need u' h nx' σ f' := by
  obtain ⟨ts, out, f3, ho, hts, hnd⟩ := s.out
  obtain ⟨nn, f4, hle⟩ := s.num
  have hm : nn ≤ u' * 1000000 := Nat.le_trans hle (Nat.mul_le_mul_right _ hu)
  exact ⟨s.L.trans (s.L.mem.more hn), s.mod, s.rd, h1.trans s.f1, ⟨ts, out, h3.trans f3, ho.up hn, by omega, hnd⟩, ⟨nn, h4.trans f4, hm⟩⟩
theorem WS.count {w : W0} {need : List Tm} {u : Nat} {h : Heap} {nx nx' : Nat} {σ : Sto} {f f' : Nat → Option AV} (s : WS w need u h nx σ f) (hn : nx ≤ nx') (h1 : f' 1 = f 1) (h3 : f' 3 = f 3) {n : Nat} (h4 : f' 4 = some (.int .i64 (n : Int))) (hle : n ≤ (u + 1) * 1000000) : WS w need (u + 1) h nx' σ f' := by
  obtain ⟨ts, out, f3, ho, hts, hnd⟩ := s.out
  exact ⟨s.L.trans (s.L.mem.more hn), s.mod, s.rd, h1.trans s.f1, ⟨ts, out, h3.trans f3, ho.up hn, by omega, hnd⟩, ⟨n, h4, hle⟩⟩
/-- a row is put to the list -/
theorem WS.push {w : W0} {need : List Tm} {u : Nat} {h : Heap} {nx nx' : Nat} {σ : Sto} {f : Nat → Option AV} (s : WS w need u h nx σ f) (hm0 : Mem w.h0 w.nx0 w.m w.σ0) {new : List Tm} {cs : List AV} (hv : RdSB w.B σ new cs 0) (hl : cs.length = 5 * new.length) (hone : allOne cs = true) (hpos : 0 < new.length) (hnew : new.length ≤ 2) (hu : u ≤ 100000)
    {id1 id2 : Nat} (h1 : nx ≤ id1) (h2 : id1 < id2) (h3 : id2 ≤ nx') :
    ∃ out out' h', f 3 = some out ∧ appV 5 (hset h id1 (.cells cs)) id2 nx' out (.slice id1 0 new.length (some new.length) 5) = some (.val out' h' (nx' + 1)) ∧
      ∀ (f' : Nat → Option AV) (n : Nat), f' 1 = f 1 → f' 3 = some out' → f' 4 = some (.int .i64 (n : Int)) → n ≤ (u + 1) * 1000000 → WS w (need ++ new) (u + 1) h' (nx' + 1) σ f' := by
  obtain ⟨ts, out, f3, ho, hts, hnd⟩ := s.out
  have L := s.L.trans (s.L.mem.more (show nx ≤ nx' by omega))
  obtain ⟨out', h', happ, L', ho', _, _⟩ := outTB_app ho L hv hl hone hpos (by omega) (by omega) h1 h2 h3 (s.L.mem.none h1) (s.L.mem.none (by omega)) s.L.le hm0
  refine ⟨out, out', h', f3, happ, fun f' n e1 e3 e4 hn => ⟨L', s.mod, s.rd, e1.trans s.f1, ⟨ts ++ new, out', e3, ho', by simp; omega, fun t ht => ?_⟩, ⟨n, e4, hn⟩⟩⟩
  rcases List.mem_append.1 ht with h | h
  · exact List.mem_append_left _ (hnd t h)
  · exact List.mem_append_right _ h
theorem WS.less {w : W0} {need need' : List Tm} {u : Nat} {h : Heap} {nx : Nat} {σ : Sto} {f : Nat → Option AV} (s : WS w need u h nx σ f) (hn : ∀ t ∈ need', t ∈ need) : WS w need' u h nx σ f :=
  ⟨s.L, s.mod, s.rd, s.f1, let ⟨ts, out, f3, ho, hts, hnd⟩ := s.out; ⟨ts, out, f3, ho, hts, fun t ht => hnd t (hn t ht)⟩, s.num⟩
theorem lt_lit (a : Nat) (b : Nat) (h : a < b) : ltI (a : Int) (b : Int) = true := by rw [ltI_nat]; simpa using h
theorem nlt_lit (a : Nat) (b : Nat) (h : ¬ a < b) : ltI (a : Int) (b : Int) = false := by rw [ltI_nat]; simpa using h
theorem mul20 {a : Nat} (h : a ≤ 5000) : wrapF .i64 (mulI 20 (a : Int)) = ((20 * a : Nat) : Int) := by
  show wrapF .i64 (Int.ofNat (20 * a)) = _
  exact wrap_nat (by omega)
/-- the term of a constructor, or of types that are told -/
theorem kid_row {B : Nat} {σ : Sto} {name : Str} {args : List Tm} {av : AV} (h : RdKsB B σ args av) :
    bld zt [(2, 1, .str name.1 name.2), (4, 1, av)] = some (.agg [.int .i64 0, .str 0 0, .str name.1 name.2, .int .i64 0, av]) ∧ bld zt [(4, 1, av)] = some (.agg [.int .i64 0, .str 0 0, .str 0 0, .int .i64 0, av]) := by
  rcases rdks_one h with rfl | ⟨_, _, _, _, _, rfl⟩ <;> exact ⟨rfl, rfl⟩

theorem cons_loop {w : W0} (hm0 : Mem w.h0 w.nx0 w.m w.σ0) (Q : Bool → Prop) (need : List Tm) (K : Nat → Nat → KX CRes) {i : Nat} {x : TyD} {xs : List TyD} (hx : w.M.types.drop i = x :: xs) : ∀ (c k u : Nat) (h : Heap) (nx : Nat) (σ : Sto) (j : Nat) (f : Nat → Option AV),
    c + k = 60 → u + c ≤ 100000 → WS w need u h nx σ f → f 6 = some (.int .i64 (i : Int)) → f 7 = some (.int .i64 (k : Int)) →
    (∀ u' h nx σ f', u' ≤ u + c → WS w need u' h nx σ f' → f' 6 = f 6 → f' 70 = f 70 → f' 71 = f 71 → WA w Q fun n d => K n d h nx .normal (.fn f') []) →
    WA w Q fun n d => kLoop (R11_73 n (CN n d)) (n - j) (.fn f) [] h nx (kLeave 4 (K n d)) := by
  intro c
  induction c with
  | zero =>
    intro k u h nx σ j f hck hu s f6 f7 hk
    have hgm := mod_ld s
    obtain ⟨v, hv, hrow⟩ := s.rd.types
    obtain ⟨b, o, cs, hix, hb, ⟨_, _, cv, hcv, hcr⟩, _, _⟩ := hrow.at hx
    have hgb := s.L.mem.sat _ _ hb
    have c2 : cs[o + i * 3 + 2]? = some cv := (cell_take (n := 3) rfl (by omega)).trans hcv
    have hlen := hcr.len
    have e60 : ltI (k : Int) 60 = false := nlt_lit k 60 (by omega)
    refine (hk u h nx σ (tmL f [(116, .bool false)]) (by omega) (s.same (Nat.le_refl _) (Nat.le_refl _) rfl rfl rfl) rfl rfl rfl).map fun c hc => ?_
    refine Ev.round (B := fun n d => R11_73 n (CN n d)) (tm := fun _ _ => .fn f) (K := fun n d => kLeave 4 (K n d)) ?_
    by_cases h1 : k < x.cons.length
    · have e1 := lt_lit _ _ h1
      repeat (first | simp -eta only [SY, ↓reduceIte, Nat.reduceEqDiff, Nat.reduceAdd, f6, f7, s.f1, r_loadB _ _ hgm, hv, hix, r_loadB _ _ hgb, c2, hlen, e1, e60] | simp -eta only [KY, ↓reduceIte, Nat.reduceEqDiff, R11_73_eq])
      exact hc
    · have e1 := nlt_lit _ _ h1
      repeat (first | simp -eta only [SY, ↓reduceIte, Nat.reduceEqDiff, Nat.reduceAdd, f6, f7, s.f1, r_loadB _ _ hgm, hv, hix, r_loadB _ _ hgb, c2, hlen, e1] | simp -eta only [KY, ↓reduceIte, Nat.reduceEqDiff, R11_73_eq])
      exact hc
  | succ c ih =>
    intro k u h nx σ j f hck hu s f6 f7 hk
    have hgm := mod_ld s
    obtain ⟨v, hv, hrow⟩ := s.rd.types
    obtain ⟨b, o, cs, hix, hb, ⟨_, _, cv, hcv, hcr⟩, _, _⟩ := hrow.at hx
    have hgb := s.L.mem.sat _ _ hb
    have c2 : cs[o + i * 3 + 2]? = some cv := (cell_take (n := 3) rfl (by omega)).trans hcv
    have hlen := hcr.len
    have e60 : ltI (k : Int) 60 = true := lt_lit k 60 (by omega)
    by_cases h1 : k < x.cons.length
    · have e1 := lt_lit _ _ h1
      obtain ⟨q, qs, hq⟩ : ∃ q qs, x.cons.drop k = q :: qs := by
        cases hd : x.cons.drop k with
        | nil => have := congrArg List.length hd; simp at this; omega
        | cons q qs => exact ⟨q, qs, rfl⟩
      obtain ⟨b2, o2, cs2, hix2, hb2, ⟨hn2, av, hav, hargs⟩, _, _⟩ := hcr.at hq
      have hgb2 := s.L.mem.sat _ _ hb2
      have d0 : cs2[o2 + k * 2]? = some (.str q.name.1 q.name.2) := by
        rw [← Nat.add_zero (o2 + k * 2)]; exact (cell_take (n := 2) rfl (by omega)).trans hn2
      have d1 : cs2[o2 + k * 2 + 1]? = some av := (cell_take (n := 2) rfl (by omega)).trans hav
      have hbld := (kid_row (name := q.name) hargs).1
      have hT : RdTB w.B σ (.mk 0 (0, 0) q.name 0 q.args) [.int .i64 0, .str 0 0, .str q.name.1 q.name.2, .int .i64 0, av] := .mk 0 (0, 0) q.name 0 q.args av hargs
      obtain ⟨out, out', h', f3, happ, hws⟩ := s.push hm0 (nx' := nx + 25) (id1 := nx + 22) (id2 := nx + 23) (rds_one hT).1 (rds_one hT).2 (rdt_one hT) (by simp) (by simp) (by omega) (by omega) (by omega) (by omega)
      have happ : appV 5 (hset h (nx + 22) (.cells [.int .i64 0, .str 0 0, .str q.name.1 q.name.2, .int .i64 0, av])) (nx + 23) (nx + 25) out (.slice (nx + 22) 0 1 (some 1) 5) = some (.val out' h' (nx + 25 + 1)) := happ
      obtain ⟨nn, f4, hnn⟩ := s.num
      have hinc : wrapF .i64 (addI (k : Int) 1) = ((k + 1 : Nat) : Int) := add_nat (b := 1) (by omega)
      have hrow1 : rowR (nx + 22) zt 1 5 [(0, 5, .agg [.int .i64 0, .str 0 0, .str q.name.1 q.name.2, .int .i64 0, av])] = some (.slice (nx + 22) 0 1 (some 1) 5, .cells [.int .i64 0, .str 0 0, .str q.name.1 q.name.2, .int .i64 0, av]) := rfl
      have hS := (hws (tmL f [(7, .int .i64 ((k + 1 : Nat) : Int)), (3, out'), (116, .bool true)]) nn rfl rfl f4 (Nat.le_trans hnn (Nat.mul_le_mul_right _ (Nat.le_succ u)))).less (need' := need) (fun t ht => List.mem_append_left _ ht)
      refine (ih (k + 1) (u + 1) h' (nx + 25 + 1) σ (j + 1) _ (by omega) (by omega) hS f6 rfl (fun u' h nx σ f' h1 h2 h3 h4 h5 => hk u' h nx σ f' (by omega) h2 (h3.trans rfl) (h4.trans rfl) (h5.trans rfl))).map fun c hc => ?_
      refine Ev.round (B := fun n d => R11_73 n (CN n d)) (tm := fun _ _ => .fn f) (K := fun n d => kLeave 4 (K n d)) ?_
      repeat (first | simp -eta only [SY, ↓reduceIte, Nat.reduceEqDiff, Nat.reduceAdd, f3, f6, f7, s.f1, r_loadB _ _ hgm, hv, hix, r_loadB _ _ hgb, c2, hlen, e1, e60, hix2, r_loadB _ _ hgb2, d0, d1, hbld, hrow1, happ, hinc] | simp -eta only [KY, ↓reduceIte, Nat.reduceEqDiff, R11_73_eq])
      exact hc
    · have e1 := nlt_lit _ _ h1
      refine (hk u h nx σ (tmL f [(116, .bool false)]) (by omega) (s.same (Nat.le_refl _) (Nat.le_refl _) rfl rfl rfl) rfl rfl rfl).map fun c hc => ?_
      refine Ev.round (B := fun n d => R11_73 n (CN n d)) (tm := fun _ _ => .fn f) (K := fun n d => kLeave 4 (K n d)) ?_
      repeat (first | simp -eta only [SY, ↓reduceIte, Nat.reduceEqDiff, Nat.reduceAdd, f6, f7, s.f1, r_loadB _ _ hgm, hv, hix, r_loadB _ _ hgb, c2, hlen, e1] | simp -eta only [KY, ↓reduceIte, Nat.reduceEqDiff, R11_73_eq])
      exact hc
end Go.Proofs.YtaajedkbaahgfaaGreatDoor

/-
What the functions of the law answer: W.Few: types, aliases.
-/
namespace Go.Proofs.YtaajedkbaahgfaaGreatDoor
open Go Go.AE Go.EV
set_option maxRecDepth 100000
set_option maxHeartbeats 2000000
theorem drop_some {α : Type} {l : List α} {k : Nat} (h : k < l.length) : ∃ q qs, l.drop k = q :: qs := by
  cases hd : l.drop k with
  | nil => have := congrArg List.length hd; simp at this; omega
  | cons q qs => exact ⟨q, qs, rfl⟩
theorem num_le {n u d : Nat} (h : n ≤ u * 1000000) (hd : d ≤ 1000000) : n + d ≤ (u + 1) * 1000000 := by
  rw [Nat.add_mul]; exact Nat.add_le_add h (by simpa using hd)
theorem num_small {n u : Nat} (h : n ≤ u * 1000000) (hu : u ≤ 100000) : n ≤ 100000000000 := Nat.le_trans h (by have := Nat.mul_le_mul_right 1000000 hu; simpa using this)

theorem tparams_loop {w : W0} (Q : Bool → Prop) (need : List Tm) (K : Nat → Nat → KX CRes) {i : Nat} {x : TyD} {xs : List TyD} (hx : w.M.types.drop i = x :: xs) : ∀ (c k u : Nat) (h : Heap) (nx : Nat) (σ : Sto) (j : Nat) (f : Nat → Option AV),
    c + k = 60 → u + c ≤ 100000 → WS w need u h nx σ f → f 6 = some (.int .i64 (i : Int)) → f 8 = some (.int .i64 (k : Int)) →
    (∀ u' h nx σ f', u' ≤ u + c → WS w need u' h nx σ f' → f' 6 = f 6 → f' 70 = f 70 → f' 71 = f 71 → WA w Q fun n d => K n d h nx .normal (.fn f') []) →
    WA w Q fun n d => kLoop (R11_74 n (CN n d)) (n - j) (.fn f) [] h nx (kLeave 6 (K n d)) := by
  intro c
  induction c with
  | zero =>
    intro k u h nx σ j f hck hu s f6 f8 hk
    have hgm := mod_ld s
    obtain ⟨v, hv, hrow⟩ := s.rd.types
    obtain ⟨b, o, cs, hix, hb, ⟨_, ⟨pv, hpv, hpr⟩, _⟩, _, _⟩ := hrow.at hx
    have hgb := s.L.mem.sat _ _ hb
    have c1 : cs[o + i * 3 + 1]? = some pv := (cell_take (n := 3) rfl (by omega)).trans hpv
    have hlen := hpr.len
    have e60 : ltI (k : Int) 60 = false := nlt_lit k 60 (by omega)
    refine (hk u h nx σ (tmL f [(155, .bool false)]) (by omega) (s.same (Nat.le_refl _) (Nat.le_refl _) rfl rfl rfl) rfl rfl rfl).map fun c hc => ?_
    refine Ev.round (B := fun n d => R11_74 n (CN n d)) (tm := fun _ _ => .fn f) (K := fun n d => kLeave 6 (K n d)) ?_
    by_cases h1 : k < x.params.length
    · have e1 := lt_lit _ _ h1
      repeat (first | simp -eta only [SY, ↓reduceIte, Nat.reduceEqDiff, Nat.reduceAdd, f6, f8, s.f1, r_loadB _ _ hgm, hv, hix, r_loadB _ _ hgb, c1, hlen, e1, e60] | simp -eta only [KY, ↓reduceIte, Nat.reduceEqDiff, R11_74_eq])
      exact hc
    · have e1 := nlt_lit _ _ h1
      repeat (first | simp -eta only [SY, ↓reduceIte, Nat.reduceEqDiff, Nat.reduceAdd, f6, f8, s.f1, r_loadB _ _ hgm, hv, hix, r_loadB _ _ hgb, c1, hlen, e1] | simp -eta only [KY, ↓reduceIte, Nat.reduceEqDiff, R11_74_eq])
      exact hc
  | succ c ih =>
    intro k u h nx σ j f hck hu s f6 f8 hk
    have hgm := mod_ld s
    obtain ⟨v, hv, hrow⟩ := s.rd.types
    obtain ⟨b, o, cs, hix, hb, ⟨_, ⟨pv, hpv, hpr⟩, _⟩, _, _⟩ := hrow.at hx
    have hgb := s.L.mem.sat _ _ hb
    have c1 : cs[o + i * 3 + 1]? = some pv := (cell_take (n := 3) rfl (by omega)).trans hpv
    have hlen := hpr.len
    have e60 : ltI (k : Int) 60 = true := lt_lit k 60 (by omega)
    by_cases h1 : k < x.params.length
    · have e1 := lt_lit _ _ h1
      obtain ⟨q, qs, hq⟩ := drop_some h1
      obtain ⟨b2, o2, cs2, hix2, hb2, hn2, _, _⟩ := hpr.at hq
      have hgb2 := s.L.mem.sat _ _ hb2
      have d0 : cs2[o2 + k * 1]? = some (.str q.1 q.2) := by
        rw [← Nat.add_zero (o2 + k * 1)]; exact (cell_take (n := 1) rfl (by omega)).trans hn2
      obtain ⟨nn, f4, hnn⟩ := s.num
      have hsm := num_small hnn (by omega)
      have m1 : sl (ltI 5000 (Int.ofNat q.1)) 5000 (Int.ofNat q.1) = ((min q.1 5000 : Nat) : Int) := min_sl q.1 5000
      have a1 := add_nat (a := nn) (b := min q.1 5000) (by omega)
      have hinc : wrapF .i64 (addI (k : Int) 1) = ((k + 1 : Nat) : Int) := add_nat (b := 1) (by omega)
      have hS := s.count (nx' := nx) (f' := tmL f [(8, .int .i64 ((k + 1 : Nat) : Int)), (4, .int .i64 ((nn + min q.1 5000 : Nat) : Int)), (155, .bool true)]) (Nat.le_refl _) rfl rfl (n := nn + min q.1 5000) rfl (num_le hnn (by omega))
      refine (ih (k + 1) (u + 1) h nx σ (j + 1) _ (by omega) (by omega) hS f6 rfl (fun u' h nx σ f' h1 h2 h3 h4 h5 => hk u' h nx σ f' (by omega) h2 (h3.trans rfl) (h4.trans rfl) (h5.trans rfl))).map fun c hc => ?_
      refine Ev.round (B := fun n d => R11_74 n (CN n d)) (tm := fun _ _ => .fn f) (K := fun n d => kLeave 6 (K n d)) ?_
      repeat (first | simp -eta only [SY, ↓reduceIte, Nat.reduceEqDiff, Nat.reduceAdd, f4, f6, f8, s.f1, r_loadB _ _ hgm, hv, hix, r_loadB _ _ hgb, c1, hlen, e1, e60, hix2, r_loadB _ _ hgb2, d0, m1, a1, hinc] | simp -eta only [KY, ↓reduceIte, Nat.reduceEqDiff, R11_74_eq])
      exact hc
    · have e1 := nlt_lit _ _ h1
      refine (hk u h nx σ (tmL f [(155, .bool false)]) (by omega) (s.same (Nat.le_refl _) (Nat.le_refl _) rfl rfl rfl) rfl rfl rfl).map fun c hc => ?_
      refine Ev.round (B := fun n d => R11_74 n (CN n d)) (tm := fun _ _ => .fn f) (K := fun n d => kLeave 6 (K n d)) ?_
      repeat (first | simp -eta only [SY, ↓reduceIte, Nat.reduceEqDiff, Nat.reduceAdd, f6, f8, s.f1, r_loadB _ _ hgm, hv, hix, r_loadB _ _ hgb, c1, hlen, e1] | simp -eta only [KY, ↓reduceIte, Nat.reduceEqDiff, R11_74_eq])
      exact hc

theorem types_loop {w : W0} (hB : w.B ≤ 9223372036854775808) (hm0 : Mem w.h0 w.nx0 w.m w.σ0) (Q : Bool → Prop) (need : List Tm) (K : Nat → Nat → KX CRes) : ∀ (xs : List TyD) (i u : Nat) (h : Heap) (nx : Nat) (σ : Sto) (j : Nat) (f : Nat → Option AV),
    w.M.types.drop i = xs → u + 121 * xs.length ≤ 100000 → WS w need u h nx σ f → f 70 = some (.int .i64 (w.M.types.length : Int)) → f 71 = some (.int .i64 (i : Int)) →
    (∀ u' h nx σ f, u' ≤ u + 121 * xs.length → WS w need u' h nx σ f → WA w Q fun n d => K n d h nx .normal (.fn f) []) →
    WA w Q fun n d => kLoop (R11_26 n (CN n d)) (n - j) (.fn f) [] h nx (kLeave 2 (K n d)) := by
  intro xs
  induction xs with
  | nil =>
    intro i u h nx σ j f hxs hu s f70 f71 hk
    have hge : ¬ i < w.M.types.length := by have := congrArg List.length hxs; simp at this; omega
    have e1 := nlt_lit _ _ hge
    refine (hk u h nx σ (tmL f [(72, .bool false)]) (by omega) (s.same (Nat.le_refl _) (Nat.le_refl _) rfl rfl rfl)).map fun c hc => ?_
    refine Ev.round (B := fun n d => R11_26 n (CN n d)) (tm := fun _ _ => .fn f) (K := fun n d => kLeave 2 (K n d)) ?_
    repeat (first | simp -eta only [SY, ↓reduceIte, Nat.reduceEqDiff, Nat.reduceAdd, f70, f71, e1] | simp -eta only [KY, ↓reduceIte, Nat.reduceEqDiff, R11_26_eq, R11_32_eq, R11_33_eq, R11_38_eq])
    exact hc
  | cons x xs ih =>
    intro i u h nx σ j f hxs hu s f70 f71 hk
    have hi := drop_lt hxs
    have e1 := lt_lit _ _ hi
    have hl : (x :: xs).length = xs.length + 1 := rfl
    obtain ⟨nn, f4, hnn⟩ := s.num
    have hsm := num_small hnn (by omega)
    have hgm := mod_ld s
    obtain ⟨v, hv, hrow⟩ := s.rd.types
    obtain ⟨b, o, cs, hix, hb, ⟨hx0, ⟨pv, hpv, hpr⟩, cv, hcv, hcr⟩, _, hbig⟩ := hrow.at hxs
    have hgb := s.L.mem.sat _ _ hb
    have c0 : cs[o + i * 3]? = some (.str x.name.1 x.name.2) := by
      rw [← Nat.add_zero (o + i * 3)]; exact (cell_take (n := 3) rfl (by omega)).trans hx0
    have c1 : cs[o + i * 3 + 1]? = some pv := (cell_take (n := 3) rfl (by omega)).trans hpv
    have c2 : cs[o + i * 3 + 2]? = some cv := (cell_take (n := 3) rfl (by omega)).trans hcv
    have hlp := hpr.len
    have hlc := hcr.len
    have m1 : sl (ltI 5000 (Int.ofNat x.name.1)) 5000 (Int.ofNat x.name.1) = ((min x.name.1 5000 : Nat) : Int) := min_sl x.name.1 5000
    have m2 : sl (ltI 5000 (x.params.length : Int)) 5000 (x.params.length : Int) = ((min x.params.length 5000 : Nat) : Int) := min_sl x.params.length 5000
    have m3 : sl (ltI 5000 (x.cons.length : Int)) 5000 (x.cons.length : Int) = ((min x.cons.length 5000 : Nat) : Int) := min_sl x.cons.length 5000
    have p2 := mul20 (a := min x.params.length 5000) (by omega)
    have p3 := mul20 (a := min x.cons.length 5000) (by omega)
    have a1 := add_nat (a := nn) (b := min x.name.1 5000) (by omega)
    have a2 := add_nat (a := nn + min x.name.1 5000) (b := 20 * min x.params.length 5000) (by omega)
    have a3 := add_nat (a := nn + min x.name.1 5000 + 20 * min x.params.length 5000) (b := 20 * min x.cons.length 5000) (by omega)
    have hinc := inc_small hi (by omega)
    have hS := s.count (nx' := nx + 31) (f' := tmL (tmL (tmL (tmL f [(72, .bool true)]) [(6, .int .i64 (i : Int))]) [(4, .int .i64 ((nn + min x.name.1 5000 + 20 * min x.params.length 5000 + 20 * min x.cons.length 5000 : Nat) : Int))]) [(7, .int .i64 0)]) (by omega) rfl rfl (n := nn + min x.name.1 5000 + 20 * min x.params.length 5000 + 20 * min x.cons.length 5000) rfl (by rw [Nat.add_assoc, Nat.add_assoc]; exact num_le hnn (by omega))
    have hC := cons_loop hm0 Q need (fun n d => kThen (R11_60 n (CN n d)) (kLeave 3 (kThen (R11_45 n (CN n d)) (kThen (kLoop (R11_26 n (CN n d)) (n - (j + 1))) (kLeave 2 (K n d)))))) hxs 60 0 (u + 1) h (nx + 31) σ 0 _ rfl (by omega) hS rfl rfl ?_
    · refine hC.map fun c hc => ?_
      refine Ev.round (B := fun n d => R11_26 n (CN n d)) (tm := fun _ _ => .fn f) (K := fun n d => kLeave 2 (K n d)) ?_
      repeat (first | simp -eta only [SY, ↓reduceIte, Nat.reduceEqDiff, Nat.reduceAdd, f70, f71, f4, e1, s.f1, r_loadB _ _ hgm, hv, hix, r_loadB _ _ hgb, c0, c1, c2, onS, hlp, hlc, m1, m2, m3, p2, p3, a1, a2, a3] | simp -eta only [KY, ↓reduceIte, Nat.reduceEqDiff, R11_26_eq, R11_32_eq, R11_33_eq, R11_38_eq, R11_39_eq, R11_44_eq, R11_49_eq, R11_52_eq, R11_53_eq, R11_55_eq, R11_56_eq, R11_59_eq, R11_63_eq, R11_64_eq, R11_69_eq])
      exact Ev.loop (B := fun n d => R11_73 n (CN n d)) (tm := fun _ _ => .fn _) hc
    · intro u1 h1 nx1 σ1 f1 hu1 s1 g6 g70 g71
      have g70' : f1 70 = some (.int .i64 (w.M.types.length : Int)) := g70.trans f70
      have g71' : f1 71 = some (.int .i64 (i : Int)) := g71.trans f71
      have g6' : f1 6 = some (.int .i64 (i : Int)) := g6.trans rfl
      have hP := tparams_loop Q need (fun n d => kLeave 3 (kThen (R11_45 n (CN n d)) (kThen (kLoop (R11_26 n (CN n d)) (n - (j + 1))) (kLeave 2 (K n d))))) hxs 60 0 u1 h1 nx1 σ1 0 (tmL f1 [(8, .int .i64 0)]) rfl (by omega) (s1.same (Nat.le_refl _) (Nat.le_refl _) rfl rfl rfl) g6' rfl ?_
      · refine hP.map fun c hc => ?_
        repeat (first | simp -eta only [SY, ↓reduceIte, Nat.reduceEqDiff, Nat.reduceAdd] | simp -eta only [KY, ↓reduceIte, Nat.reduceEqDiff, R11_60_eq, R11_65_eq, R11_66_eq, R11_70_eq])
        exact Ev.loop (B := fun n d => R11_74 n (CN n d)) (tm := fun _ _ => .fn _) hc
      · intro u2 h2 nx2 σ2 f2 hu2 s2 q6 q70 q71
        have q70' : f2 70 = some (.int .i64 (w.M.types.length : Int)) := q70.trans g70'
        have q71' : f2 71 = some (.int .i64 (i : Int)) := q71.trans g71'
        refine (ih (i + 1) u2 h2 nx2 σ2 (j + 1) (tmL f2 [(71, .int .i64 ((i + 1 : Nat) : Int))]) (drop_tail hxs) (by omega) (s2.same (Nat.le_refl _) (Nat.le_refl _) rfl rfl rfl) q70' rfl (fun u' h nx σ f h1 h2 => hk u' h nx σ f (by omega) h2)).map fun c hc => ?_
        repeat (first | simp -eta only [SY, ↓reduceIte, Nat.reduceEqDiff, Nat.reduceAdd, q71', hinc] | simp -eta only [KY, ↓reduceIte, Nat.reduceEqDiff, R11_45_eq])
        exact hc
end Go.Proofs.YtaajedkbaahgfaaGreatDoor
