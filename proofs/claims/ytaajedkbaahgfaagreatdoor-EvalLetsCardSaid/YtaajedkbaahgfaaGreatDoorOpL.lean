/-
EvalLets: for every module and term and every number of steps, the law returns true: let q = e in q, (fun q -> q) e and a match of e with q come to what e comes to, in two, three and two steps more. Its conditions: the listed package variables read as the program's text lays them (the card ties them to the text).
-/
import Derived.Test.YtaajedkbaahgfaaGreatDoorA13
import Derived.Test.YtaajedkbaahgfaaGreatDoorTie
import Derived.Test.YtaajedkbaahgfaaGreatDoorCards
import Derived.WalkKit
import Derived.ProofKit
import Derived.OpenShut
import Derived.Lay
import Derived.Lib.LaidU8
import Derived.LaidOnce
import Derived.SevenTiedAt
import Derived.Stop.Joined
set_option linter.unusedSimpArgs false
set_option linter.unusedVariables false
set_option linter.unusedSectionVars false
namespace Go.Proofs.YtaajedkbaahgfaaGreatDoor
open Go Go.ChangeShapes Go.WideShapes Go.ChangeAt Go.RowKit
theorem ownT : ownKnob Tryz.prog.godebug = none := by kernel_rfl
theorem laidOutT : laidOutB Tryz.prog = true := by kernel_rfl
theorem dummy {W : World} {l : List (String × DataW Unit)} {x : String × DataW Unit} (h : laidMet Tryz.prog (x :: l) W) : ∃ (B : Nat) (c : Array Value) (t : TypeId) (fr : Nat × Nat), W.heap[B]? = some (.cells c t fr) := by
  obtain ⟨g, t, cs, fuel, p, hg, _, hv, _⟩ := Lib.laidMet.reads h (show (x.1, x.2) ∈ x :: l from .head _)
  unfold World.var? at hv
  rw [hg] at hv
  simp only [Option.bind_some] at hv
  split at hv
  · rename_i cs' t' fr hh
    exact ⟨g, cs', t', fr, hh⟩
  · cases hv
set_option maxRecDepth 100000 in
theorem letsLifted (os : Os) (started : os.Started) (H : Type) (enc : TypeId × Value → H) :
    ReturnsInHanded {} Tryz.checked os 4 .any (fun w args => (Rows.evalLetsSpec.pre enc Tryz.prog Tryz.f4 [] false w args ∧ laidMetH Tryz.prog Rows.evalLetsRow.laid w) ∧ sizedMet enc Tryz.prog Tryz.f4 (OpenSpec.ofChange Rows.evalLetsSpec) false w args)
      (Rows.evalLetsSpec.post enc Tryz.prog Tryz.f4 false true false false) := by
  refine returnsInHanded_of_change_and (C := Tryz.checked) (X := fun w _ => laidMetH Tryz.prog Rows.evalLetsRow.laid w) (fun _ _ _ hh h => h.of_heap hh) ownT started (by kernel_rfl) Tryz.func4
    (ChangeSpec.witness_shaped (enc := enc) (C := Tryz.checked) (os := os) (X := fun w _ => laidMetH Tryz.prog Rows.evalLetsRow.laid w) false (World.laidAll Tryz.prog os Rows.evalLetsRow.laid)
      #[.agg #[.slice none 0 0, .slice none 0 0, .slice none 0 0, .slice none 0 0, .slice none 0 0], .agg #[.int .i64 0, .string ⟨#[]⟩, .string ⟨#[]⟩, .int .i64 0, .slice none 0 0], .int .i64 0] 8 (World.laidAll_os _ _ _)
      (World.shaped_of_ZipB (by kernel_rfl) (by kernel_rfl)) (by kernel_rfl) (by kernel_rfl) (by kernel_rfl)
      (by rw [MakeChecks.laidMetH_plain _ _ _ (by kernel_rfl)]; exact laidMet_laidAll _ (by kernel_rfl) (by kernel_rfl))) ?_
  intro W base args ds gs before hval0 hW _ _ hL _
  have hval : ∀ (j : Nat) t v, Tryz.f4.params[j]? = some t → args[j]? = some v → Value.okWide Tryz.prog W .any base t v := hval0
  have hW' := hW
  obtain ⟨p, q, hA0, hV, rfl, hfz, hnd⟩ := hW
  have hA : DataW.TrodAll enc Tryz.prog W 0 (fun _ => true) true Tryz.f4.params.toList args.toList ds p := hA0
  rw [Tryz.params4] at hA hval
  obtain ⟨v0, v1, v2, d0, d1, d2, p0, p1, p2, rfl, rfl, rfl, h0, h1, h2⟩ := trodAll_three hA
  obtain ⟨rfl, rfl⟩ := trodVars_none hV
  obtain ⟨z2, rfl, rfl, rfl, w2⟩ := open_int Tryz.underlying3 (hval 2 3 v2 rfl rfl) h2
  obtain ⟨cs0, rfl⟩ : ∃ cs, v0 = .agg cs := by
    have := hval 0 28 v0 rfl rfl
    unfold Value.okWide at this
    rw [Tryz.underlying28] at this
    obtain ⟨cs, h, _⟩ := this; exact ⟨cs, h⟩
  obtain ⟨cs1, rfl⟩ : ∃ cs, v1 = .agg cs := by
    have := hval 1 31 v1 rfl rfl
    unfold Value.okWide at this
    rw [Tryz.underlying31] at this
    obtain ⟨cs, h, _⟩ := this; exact ⟨cs, h⟩
  have hL' := hL
  rw [MakeChecks.laidMetH_plain _ _ _ (by kernel_rfl)] at hL'
  have hd := dummy hL'
  obtain ⟨f0, t0⟩ := h0
  obtain ⟨f1, t1⟩ := h1
  have hlt : ∀ x, x ∈ p0 ∨ x ∈ p1 → x.block < W.heap.size := fun x hx => by simpa using hW'.lt x (by simpa using hx)
  refine (call4 t0 t1 hd z2).mono fun e W' ⟨he, hb⟩ => ?_
  subst he
  refine ⟨_, rfl, _, _, _, [], p0 ++ (p1 ++ []), [], hW', trodAll_mk1 (shut_bool Tryz.underlying4 _), ?_, rfl, hb.frame _, fun h => by cases h⟩
  exact trodAll_mk3 (Below.trod laidOutT (by kernel_rfl) (of_decide_eq_true (by kernel_rfl)) ⟨f0, t0⟩ hb (fun x hx => hlt x (by simp [hx]))) (Below.trod laidOutT (by kernel_rfl) (of_decide_eq_true (by kernel_rfl)) ⟨f1, t1⟩ hb (fun x hx => hlt x (by simp [hx]))) (shut_int Tryz.underlying3 w2)
theorem letsHolds : Rows.EvalLetsSaid :=
  OpenClaim.holds_of_wide 4 Tryz.f4 rfl rfl rfl rfl rfl rfl rfl ⟨rfl, rfl, rfl, rfl, rfl⟩ rfl rfl rfl rfl rfl (by kernel_rfl) Tryz.func4 (by kernel_rfl)
    (of_decide_eq_true (by kernel_rfl)) (by unfold Func.isWrapper; first | (rw [if_pos (by decide +kernel)]; kernel_rfl) | (rw [if_neg (by decide +kernel)]; exact ⟨rfl, rfl⟩))
    (fun os started H enc _ => letsLifted os started H enc)
theorem lets_card_holds : Rows.EvalLetsCardSaid :=
  Claim7.holds_tied_plain_at .later [] [.data, .data, .data, .data, .sentinel, .sentinel, .pinned] true (true, "6667b0b234ceea9ce81a202d8974b39c4772bab67d1c627c54dc3611c73e2b4f") true letsHolds (fun _ h => by cases h) (by kernel_rfl) (fun _ h => by cases h) evalLets_row_tie rfl ⟨rfl, rfl⟩ (by kernel_rfl) rfl
    (fun f fn hf hfn => by
      obtain rfl : f = 4 := Option.some.inj ((show Tryz.prog.funcNamed "touchstone/touchstonelaw26.EvalLets" = some 4 by kernel_rfl).symm.trans hf) |>.symm
      obtain rfl : fn = Tryz.f4 := (Option.some.inj (Tryz.func4.symm.trans hfn)).symm
      exact ⟨by kernel_rfl, fun j t ht => by
        rw [Tryz.params4] at ht
        have hm : t ∈ [28, 31, 3] := by simpa using Array.mem_of_getElem? ht
        have hall : ([28, 31, 3].all fun u => !Tryz.prog.wantsStandIn u) = true := by kernel_rfl
        exact (show Tryz.prog.wantsStandIn t = false by simpa using List.all_eq_true.1 hall t hm)⟩)
    (by kernel_rfl)
#print axioms lets_card_holds
end Go.Proofs.YtaajedkbaahgfaaGreatDoor
