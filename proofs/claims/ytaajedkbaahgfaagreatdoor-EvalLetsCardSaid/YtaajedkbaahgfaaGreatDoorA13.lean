/-
Texts of the proof, joined: Ev27, R4, Ev28, Op3, Op4.
-/
import Derived.Test.YtaajedkbaahgfaaGreatDoorA12
import Derived.Test.YtaajedkbaahgfaaGreatDoorProg
import Derived.Below
import Derived.Carry
set_option linter.unusedSimpArgs false
set_option linter.unusedVariables false
set_option linter.unusedSectionVars false
/-
What the functions of the law answer: EvalMore.
-/
namespace Go.Proofs.YtaajedkbaahgfaaGreatDoor
open Go Go.AE Go.EV
set_option maxRecDepth 100000
set_option maxHeartbeats 4000000
theorem sp3 : spL 3 = none := rfl
theorem alive_rn (h : Heap) (nx : Nat) : Ev (fun n d => CN n d 6 [] h nx) (.ret (.bool true) h nx) := Ev.deeper (g' := fun _ _ => some (.ret (.bool true) h nx)) (fun _ _ => rfl) (Ev.some _)
theorem no_rn (a : AV) (h : Heap) (nx : Nat) : Ev (fun n d => CN n d 8 [a] h nx) (.ret a h nx) := Rn.of (f := 8) (l := [a]) (g := fun n d => F8 n (CN n d) a h nx) (fun n d => F8_eq sp8 n (CN n d) a h nx) (Ev.pure fun _ _ => rfl)
theorem norm300 (z : Int) : ∃ r : Nat, r < 300 ∧ intBin .rem .i64 z 300 = some (.int .i64 (z.tmod 300)) ∧ wrapF .i64 (addI (z.tmod 300) 300) = z.tmod 300 + 300 ∧ intBin .rem .i64 (z.tmod 300 + 300) 300 = some (.int .i64 (r : Int)) := by
  have h1 := Int.lt_tmod_of_pos z (show (0 : Int) < 300 by decide)
  have h2 := Int.tmod_lt_of_pos z (show (0 : Int) < 300 by decide)
  have hrem : ∀ a : Int, intBin .rem .i64 a 300 = some (.int .i64 (a.tmod 300)) := fun a => by
    have h : intBin .rem .i64 a 300 = some (AV.int .i64 (remI a 300)) := by cases a <;> rfl
    rw [h, remI_eq]
  obtain ⟨k, hk⟩ := Int.eq_ofNat_of_zero_le (show 0 ≤ z.tmod 300 + 300 by omega)
  refine ⟨k % 300, Nat.mod_lt _ (by decide), hrem z, ?_, ?_⟩
  · rw [addI_eq, hk]; exact wrap_nat (by omega)
  · rw [hrem, hk]; rfl
theorem ext0 (a b c : AV) : extV (.tuple [a, b, c]) 0 = some a := nd rfl
theorem ext1 (a b c : AV) : extV (.tuple [a, b, c]) 1 = some b := nd rfl
theorem ext2 (a b c : AV) : extV (.tuple [a, b, c]) 2 = some c := nd rfl
theorem eqI_r (a : Int) : eqI a a = true := eqI_refl a
theorem sub_nat {n : Nat} (h : 1 ≤ n) (h2 : n < 9223372036854775808) : wrapF .i64 (subI (n : Int) 1) = ((n - 1 : Nat) : Int) := by
  obtain ⟨k, rfl⟩ : ∃ k, n = k + 1 := ⟨n - 1, by omega⟩
  exact sub_one k h2
/-- Eval, and its answer's term in a block of its own -/
theorem eval_st {B : Nat} (hB : B ≤ 9223372036854775808) (M : Md) (t : Tm) {s n : Nat} {q : Tm} {e : Int} (h1 : 1 ≤ s) (hst : s ≤ 20000) {h : Heap} {nx m : Nat} {σ : Sto} {l l5 : List AV} (hm : Mem h nx m σ) (hr : RdMd B σ M l) (hsm : ∀ x ∈ M.lets, Sml x.body) (ht : RdT σ t l5) (hE : evalT (letsOf M) t s = (q, n, e)) :
    ∃ h' nx' σ' cs h'', Later h nx m σ h'' (nx' + 1) σ' ∧ Ev (fun n d => CN n d 7 [.agg l, .agg l5, .int .i64 (s : Int)] h nx) (.ret (.tuple [.agg cs, .int .i64 (n : Int), .int .i64 e]) h' nx') ∧ RdT σ' q cs ∧ putCells (hset h' nx' (.cells zt)) nx' 0 5 cs = some h'' ∧ σ' nx' = some (.cells cs) ∧ (pkAgg 5).run cs 0 = some (.agg cs) := by
  obtain ⟨h', nx', σ', cs, L, hrun, hrd⟩ := eval7_ok hB M t h1 hst hm hr hsm ht
  rw [hE] at hrun hrd
  have hs : σ' nx' = none := L.mem.none (Nat.le_refl _)
  have hml := hm.mlt
  have hlo := hm.lo
  have L1 := L.trans ((L.mem.alloc (id := nx') (nx' := nx' + 1) (x := .cells zt) (Nat.le_refl _) (Nat.lt_succ_self _)))
  have L2 := L1.put (.cells cs) (id := nx') L.le (Nat.lt_succ_self _) hs hml
  refine ⟨h', nx', _, cs, _, L2, hrun, hrd.mono (sput_le hs), ?_, sput_self _ _ _, pkAgg_run (by rw [List.drop_zero, List.take_of_length_le (by rw [rdt_len hrd]; omega)]) (rdt_len hrd)⟩
  have hsp : lsplice 0 cs zt = some cs := by
    match cs, rdt_len hrd with
    | [_, _, _, _, _], _ => rfl
  have := L.le
  exact putCells_ok' (rdt_len hrd) (rdt_one hrd) (hro_high (by rw [hset_lo, L.lo]; omega)) (by rw [hget_set, if_pos rfl]) hsp
theorem more_ok (M : Md) (t : Tm) (z2 z3 : Int) {h : Heap} {nx m : Nat} {σ : Sto} {l l5 : List AV} (hm : Mem h nx m σ) (hr : RdMd 9223372036854775808 σ M l) (ht : RdTB 9223372036854775808 σ t l5) :
    ∃ h' nx' σ', Later h nx m σ h' nx' σ' ∧ Rn 3 [.agg l, .agg l5, .int .i64 z2, .int .i64 z3] h nx (.ret (.bool true) h' nx') := by
  have hF : ∀ c, Ev (fun n d => F3 n (CN n d) (.agg l) (.agg l5) z2 z3 h nx) c → Rn 3 [.agg l, .agg l5, .int .i64 z2, .int .i64 z3] h nx c := fun c hc =>
    Rn.of (f := 3) (l := [.agg l, .agg l5, .int .i64 z2, .int .i64 z3]) (g := fun n d => F3 n (CN n d) (.agg l) (.agg l5) z2 z3 h nx) (fun n d => F3_eq sp3 n (CN n d) (.agg l) (.agg l5) z2 z3 h nx) hc
  obtain ⟨hb1, hl1⟩ := box5 hr.len nx
  obtain ⟨hb2, hl2⟩ := box5 (rdt_len5 ht) (nx + 1)
  have L1 := hm.make (id := nx) (nx' := nx + 1) (.cells l) (Nat.le_refl _) (Nat.lt_succ_self _)
  have L2 := L1.trans (L1.mem.make (id := nx + 1) (nx' := nx + 1 + 1) (.cells l5) (Nat.le_refl _) (Nat.lt_succ_self _))
  have s2 : sput (sput σ nx (.cells l)) (nx + 1) (.cells l5) (nx + 1) = some (.cells l5) := sput_self _ _ _
  have s1 : sput (sput σ nx (.cells l)) (nx + 1) (.cells l5) nx = some (.cells l) := by
    unfold sput; rw [if_neg (by omega), if_pos rfl]
  have g1 := L2.mem.sat _ _ s1
  have g2 := L2.mem.sat _ _ s2
  obtain ⟨h3, n3, σ3, b, L3, hrun3, hfew⟩ := few5_ok (Nat.le_refl _) (by decide) M t L2.mem (hr.mono L2.sle) (ht.mono L2.sle)
  have K3 := L2.trans L3
  cases b with
  | false =>
    refine ⟨h3, n3, σ3, K3, hF _ ?_⟩
    unfold F3
    repeat (first | simp -eta only [SY, ↓reduceIte, Nat.reduceEqDiff, Nat.reduceAdd, hb1, hb2, r_loadB _ _ g1, r_loadB _ _ g2, hl1, hl2] | simp -eta only [KY, ↓reduceIte, Nat.reduceEqDiff])
    refine Ev.call hrun3 ?_
    repeat (first | simp -eta only [SY, ↓reduceIte, Nat.reduceEqDiff, Nat.reduceAdd] | simp -eta only [KY, ↓reduceIte, Nat.reduceEqDiff])
    refine Ev.call (alive_rn _ _) ?_
    exact Ev.some _
  | true =>
  obtain ⟨hw, hwl, _⟩ := hfew rfl
  have hsm : ∀ x ∈ M.lets, Sml x.body := fun x hx => sml_of _ 0 (hwl x hx)
  have hrT := rdt_sml (C := 4611686018427387904) (by decide) (ht.mono K3.sle) (sml_of t 0 hw)
  have hr3 := hr.mono K3.sle
  obtain ⟨r, hr300, a20, a21, a22⟩ := norm300 z2
  obtain ⟨r', hr300', a24, a25, a26⟩ := norm300 z3
  have a23 : wrapF .i64 (addI 1 (r : Int)) = ((1 + r : Nat) : Int) := add_nat (a := 1) (by omega)
  have f1 := K3.mem.sat _ _ (L3.sle _ _ s1)
  have f2 := K3.mem.sat _ _ (L3.sle _ _ s2)
  obtain ⟨q, na, ea, hE⟩ : ∃ q na ea, evalT (letsOf M) t (1 + r) = (q, na, ea) := ⟨_, _, _, rfl⟩
  obtain ⟨h4, n4, σ4, cs4, h4', L4, hrun4, hrd4, hput4, hs4, hpk4⟩ := eval_st (Nat.le_refl _) M t (by omega) (by omega) K3.mem hr3 hsm hrT hE
  have K4 := K3.trans L4
  have g4 := K4.mem.sat _ _ hs4
  by_cases he9 : ea = 9
  · subst he9
    obtain ⟨hq, hn⟩ := evalT_lim hE
    subst hq
    obtain ⟨h5, n5, σ5, L5, hrun5⟩ := same_ok tz h4' (n4 + 1) m σ4 cs4 zt K4.mem hrd4 (.mk 0 (0, 0) (0, 0) 0 [] _ .nil)
    have K5 := K4.trans L5
    have hle : nt (ltI ((1 + r : Nat) : Int) (na : Int)) = true := by rw [nt_lt]; simp; omega
    refine ⟨h5, n5, σ5, K5, hF _ ?_⟩
    unfold F3
    repeat (first | simp -eta only [SY, ↓reduceIte, Nat.reduceEqDiff, Nat.reduceAdd, hb1, hb2, r_loadB _ _ g1, r_loadB _ _ g2, hl1, hl2] | simp -eta only [KY, ↓reduceIte, Nat.reduceEqDiff])
    refine Ev.call hrun3 ?_
    repeat (first | simp -eta only [SY, ↓reduceIte, Nat.reduceEqDiff, Nat.reduceAdd, a20, a21, a22, a23, a24, a25, a26, r_loadB _ _ f1, r_loadB _ _ f2, hl1, hl2] | simp -eta only [KY, ↓reduceIte, Nat.reduceEqDiff])
    refine Ev.call hrun4 ?_
    repeat (first | simp -eta only [SY, ↓reduceIte, Nat.reduceEqDiff, Nat.reduceAdd, ext0, ext1, ext2, hput4] | simp -eta only [KY, ↓reduceIte, Nat.reduceEqDiff])
    refine Ev.call (no_rn _ _ _) ?_
    repeat (first | simp -eta only [SY, ↓reduceIte, Nat.reduceEqDiff, Nat.reduceAdd, eqI_r, r_loadB _ _ g4, hpk4] | simp -eta only [KY, ↓reduceIte, Nat.reduceEqDiff])
    refine Ev.call hrun5 ?_
    repeat (first | simp -eta only [SY, ↓reduceIte, Nat.reduceEqDiff, Nat.reduceAdd, hle] | simp -eta only [KY, ↓reduceIte, Nat.reduceEqDiff])
    refine Ev.call (alive_rn _ _) ?_
    refine Ev.pure fun n d => ?_
    repeat (first | simp -eta only [SY, ↓reduceIte, Nat.reduceEqDiff, Nat.reduceAdd] | simp -eta only [KY, ↓reduceIte, Nat.reduceEqDiff])
  have he9' : eqI ea 9 = false := eqI_ne he9
  obtain ⟨p1, p2, pmore, psame, pfew⟩ := evalT_more (by omega) hE he9
  have hE2 := pmore r'
  have a69 : wrapF .i64 (addI ((1 + r : Nat) : Int) (r' : Int)) = ((1 + r + r' : Nat) : Int) := add_nat (by omega)
  have f1' := K4.mem.sat _ _ (L4.sle _ _ (L3.sle _ _ s1))
  have f2' := K4.mem.sat _ _ (L4.sle _ _ (L3.sle _ _ s2))
  obtain ⟨h5, n5, σ5, cs5, h5', L5, hrun5, hrd5, hput5, hs5, hpk5⟩ := eval_st (Nat.le_refl _) M t (by omega) (by omega) K4.mem (hr.mono K4.sle) hsm (hrT.mono L4.sle) hE2
  have K5 := K4.trans L5
  have f1'' := K5.mem.sat _ _ (L5.sle _ _ (L4.sle _ _ (L3.sle _ _ s1)))
  have f2'' := K5.mem.sat _ _ (L5.sle _ _ (L4.sle _ _ (L3.sle _ _ s2)))
  obtain ⟨h6, n6, σ6, cs6, h6', L6, hrun6, hrd6, hput6, hs6, hpk6⟩ := eval_st (Nat.le_refl _) M t p1 (by omega) K5.mem (hr.mono K5.sle) hsm ((hrT.mono L4.sle).mono L5.sle) psame
  have K6 := K5.trans L6
  have g46 := K6.mem.sat _ _ (L6.sle _ _ (L5.sle _ _ hs4))
  have g56 := K6.mem.sat _ _ (L6.sle _ _ hs5)
  obtain ⟨h7, n7, σ7, L7, hrun7⟩ := same_ok q h6' (n6 + 1) m σ6 cs4 cs5 K6.mem ((hrd4.mono L5.sle).mono L6.sle) (hrd5.mono L6.sle)
  have K7 := K6.trans L7
  have g47 := K7.mem.sat _ _ (L7.sle _ _ (L6.sle _ _ (L5.sle _ _ hs4)))
  have g67 := K7.mem.sat _ _ (L7.sle _ _ hs6)
  obtain ⟨h8, n8, σ8, L8, hrun8⟩ := same_ok q h7 n7 m σ7 cs4 cs6 K7.mem (((hrd4.mono L5.sle).mono L6.sle).mono L7.sle) (hrd6.mono L7.sle)
  have K8 := K7.trans L8
  have f1s := K8.mem.sat _ _ (L8.sle _ _ (L7.sle _ _ (L6.sle _ _ (L5.sle _ _ (L4.sle _ _ (L3.sle _ _ s1))))))
  have f2s := K8.mem.sat _ _ (L8.sle _ _ (L7.sle _ _ (L6.sle _ _ (L5.sle _ _ (L4.sle _ _ (L3.sle _ _ s2))))))
  by_cases hn1 : 1 < na
  · have e1 : ltI 1 (na : Int) = true := lt_lit 1 na hn1
    have a157 := sub_nat (n := na) (by omega) (by omega)
    obtain ⟨q9, n9, e9, hE9⟩ : ∃ q n e, evalT (letsOf M) t (na - 1) = (q, n, e) := ⟨_, _, _, rfl⟩
    have he : e9 = 9 := by have := pfew hn1; rw [hE9] at this; exact this
    subst he
    obtain ⟨h9, m9, σ9, cs9, h9', L9, hrun9, hrd9, hput9, hs9, hpk9⟩ := eval_st (Nat.le_refl _) M t (by omega) (by omega) K8.mem (hr.mono K8.sle) hsm (((((hrT.mono L4.sle).mono L5.sle).mono L6.sle).mono L7.sle).mono L8.sle) hE9
    refine ⟨h9', m9 + 1, σ9, K8.trans L9, hF _ ?_⟩
    unfold F3
    repeat (first | simp -eta only [SY, ↓reduceIte, Nat.reduceEqDiff, Nat.reduceAdd, hb1, hb2, r_loadB _ _ g1, r_loadB _ _ g2, hl1, hl2] | simp -eta only [KY, ↓reduceIte, Nat.reduceEqDiff])
    refine Ev.call hrun3 ?_
    repeat (first | simp -eta only [SY, ↓reduceIte, Nat.reduceEqDiff, Nat.reduceAdd, a20, a21, a22, a23, a24, a25, a26, r_loadB _ _ f1, r_loadB _ _ f2, hl1, hl2] | simp -eta only [KY, ↓reduceIte, Nat.reduceEqDiff])
    refine Ev.call hrun4 ?_
    repeat (first | simp -eta only [SY, ↓reduceIte, Nat.reduceEqDiff, Nat.reduceAdd, ext0, ext1, ext2, hput4] | simp -eta only [KY, ↓reduceIte, Nat.reduceEqDiff])
    refine Ev.call (no_rn _ _ _) ?_
    repeat (first | simp -eta only [SY, ↓reduceIte, Nat.reduceEqDiff, Nat.reduceAdd, he9', a69, r_loadB _ _ f1', r_loadB _ _ f2', hl1, hl2] | simp -eta only [KY, ↓reduceIte, Nat.reduceEqDiff])
    refine Ev.call hrun5 ?_
    repeat (first | simp -eta only [SY, ↓reduceIte, Nat.reduceEqDiff, Nat.reduceAdd, ext0, ext1, ext2, hput5, r_loadB _ _ f1'', r_loadB _ _ f2'', hl1, hl2] | simp -eta only [KY, ↓reduceIte, Nat.reduceEqDiff])
    refine Ev.call hrun6 ?_
    repeat (first | simp -eta only [SY, ↓reduceIte, Nat.reduceEqDiff, Nat.reduceAdd, ext0, ext1, ext2, hput6] | simp -eta only [KY, ↓reduceIte, Nat.reduceEqDiff])
    refine Ev.call (no_rn _ _ _) ?_
    repeat (first | simp -eta only [SY, ↓reduceIte, Nat.reduceEqDiff, Nat.reduceAdd] | simp -eta only [KY, ↓reduceIte, Nat.reduceEqDiff])
    refine Ev.call (no_rn _ _ _) ?_
    repeat (first | simp -eta only [SY, ↓reduceIte, Nat.reduceEqDiff, Nat.reduceAdd, eqI_r] | simp -eta only [KY, ↓reduceIte, Nat.reduceEqDiff])
    refine Ev.call (no_rn _ _ _) ?_
    repeat (first | simp -eta only [SY, ↓reduceIte, Nat.reduceEqDiff, Nat.reduceAdd] | simp -eta only [KY, ↓reduceIte, Nat.reduceEqDiff])
    refine Ev.call (no_rn _ _ _) ?_
    repeat (first | simp -eta only [SY, ↓reduceIte, Nat.reduceEqDiff, Nat.reduceAdd, eqI_r, r_loadB _ _ g46, r_loadB _ _ g56, hpk4, hpk5] | simp -eta only [KY, ↓reduceIte, Nat.reduceEqDiff])
    refine Ev.call hrun7 ?_
    repeat (first | simp -eta only [SY, ↓reduceIte, Nat.reduceEqDiff, Nat.reduceAdd, r_loadB _ _ g47, r_loadB _ _ g67, hpk4, hpk6] | simp -eta only [KY, ↓reduceIte, Nat.reduceEqDiff])
    refine Ev.call hrun8 ?_
    repeat (first | simp -eta only [SY, ↓reduceIte, Nat.reduceEqDiff, Nat.reduceAdd, eqI_r, e1, r_loadB _ _ f1s, r_loadB _ _ f2s, hl1, hl2, a157] | simp -eta only [KY, ↓reduceIte, Nat.reduceEqDiff])
    refine Ev.call hrun9 ?_
    repeat (first | simp -eta only [SY, ↓reduceIte, Nat.reduceEqDiff, Nat.reduceAdd, ext0, ext1, ext2, hput9] | simp -eta only [KY, ↓reduceIte, Nat.reduceEqDiff])
    refine Ev.call (no_rn _ _ _) ?_
    repeat (first | simp -eta only [SY, ↓reduceIte, Nat.reduceEqDiff, Nat.reduceAdd, eqI_r] | simp -eta only [KY, ↓reduceIte, Nat.reduceEqDiff])
    refine Ev.call (alive_rn _ _) ?_
    refine Ev.pure fun n d => ?_
    repeat (first | simp -eta only [SY, ↓reduceIte, Nat.reduceEqDiff, Nat.reduceAdd] | simp -eta only [KY, ↓reduceIte, Nat.reduceEqDiff])
  · have e1 : ltI 1 (na : Int) = false := nlt_lit 1 na hn1
    refine ⟨h8, n8, σ8, K8, hF _ ?_⟩
    unfold F3
    repeat (first | simp -eta only [SY, ↓reduceIte, Nat.reduceEqDiff, Nat.reduceAdd, hb1, hb2, r_loadB _ _ g1, r_loadB _ _ g2, hl1, hl2] | simp -eta only [KY, ↓reduceIte, Nat.reduceEqDiff])
    refine Ev.call hrun3 ?_
    repeat (first | simp -eta only [SY, ↓reduceIte, Nat.reduceEqDiff, Nat.reduceAdd, a20, a21, a22, a23, a24, a25, a26, r_loadB _ _ f1, r_loadB _ _ f2, hl1, hl2] | simp -eta only [KY, ↓reduceIte, Nat.reduceEqDiff])
    refine Ev.call hrun4 ?_
    repeat (first | simp -eta only [SY, ↓reduceIte, Nat.reduceEqDiff, Nat.reduceAdd, ext0, ext1, ext2, hput4] | simp -eta only [KY, ↓reduceIte, Nat.reduceEqDiff])
    refine Ev.call (no_rn _ _ _) ?_
    repeat (first | simp -eta only [SY, ↓reduceIte, Nat.reduceEqDiff, Nat.reduceAdd, he9', a69, r_loadB _ _ f1', r_loadB _ _ f2', hl1, hl2] | simp -eta only [KY, ↓reduceIte, Nat.reduceEqDiff])
    refine Ev.call hrun5 ?_
    repeat (first | simp -eta only [SY, ↓reduceIte, Nat.reduceEqDiff, Nat.reduceAdd, ext0, ext1, ext2, hput5, r_loadB _ _ f1'', r_loadB _ _ f2'', hl1, hl2] | simp -eta only [KY, ↓reduceIte, Nat.reduceEqDiff])
    refine Ev.call hrun6 ?_
    repeat (first | simp -eta only [SY, ↓reduceIte, Nat.reduceEqDiff, Nat.reduceAdd, ext0, ext1, ext2, hput6] | simp -eta only [KY, ↓reduceIte, Nat.reduceEqDiff])
    refine Ev.call (no_rn _ _ _) ?_
    repeat (first | simp -eta only [SY, ↓reduceIte, Nat.reduceEqDiff, Nat.reduceAdd] | simp -eta only [KY, ↓reduceIte, Nat.reduceEqDiff])
    refine Ev.call (no_rn _ _ _) ?_
    repeat (first | simp -eta only [SY, ↓reduceIte, Nat.reduceEqDiff, Nat.reduceAdd, eqI_r] | simp -eta only [KY, ↓reduceIte, Nat.reduceEqDiff])
    refine Ev.call (no_rn _ _ _) ?_
    repeat (first | simp -eta only [SY, ↓reduceIte, Nat.reduceEqDiff, Nat.reduceAdd] | simp -eta only [KY, ↓reduceIte, Nat.reduceEqDiff])
    refine Ev.call (no_rn _ _ _) ?_
    repeat (first | simp -eta only [SY, ↓reduceIte, Nat.reduceEqDiff, Nat.reduceAdd, eqI_r, r_loadB _ _ g46, r_loadB _ _ g56, hpk4, hpk5] | simp -eta only [KY, ↓reduceIte, Nat.reduceEqDiff])
    refine Ev.call hrun7 ?_
    repeat (first | simp -eta only [SY, ↓reduceIte, Nat.reduceEqDiff, Nat.reduceAdd, r_loadB _ _ g47, r_loadB _ _ g67, hpk4, hpk6] | simp -eta only [KY, ↓reduceIte, Nat.reduceEqDiff])
    refine Ev.call hrun8 ?_
    repeat (first | simp -eta only [SY, ↓reduceIte, Nat.reduceEqDiff, Nat.reduceAdd, eqI_r, e1] | simp -eta only [KY, ↓reduceIte, Nat.reduceEqDiff])
    refine Ev.call (alive_rn _ _) ?_
    exact Ev.some _
end Go.Proofs.YtaajedkbaahgfaaGreatDoor

/-
Residual of function 4
-/
namespace Go.Proofs.YtaajedkbaahgfaaGreatDoor
open Go Go.AE
set_option maxRecDepth 100000
/-! touchstone/touchstonelaw26.EvalLets -/
noncomputable def C4 : Code := Tryz.f4.body.getD .skip
noncomputable def E4 (n : Nat) (call : CallF) : KX CRes := kEnd Tryz.prog true locOfF n call (mapL (rsVar Tryz.prog 8) Tryz.f4.results.toList)
noncomputable def F4 (n : Nat) (call : CallF) (a0 : AV) (a1 : AV) (z2 : Int) (h : Heap) (nx : Nat) : Option CRes :=
  bd (boxR nx a0) fun r1 =>
  letH (hset h nx r1.2) (Nat.succ nx) fun h2 n3 =>
  bd (boxR n3 a1) fun r4 =>
  letH (hset h2 n3 r4.2) (Nat.succ n3) fun h5 n6 =>
  bd (ldA 5 h5 r1.1) fun v7 =>
  bd (ldA 5 h5 r4.1) fun v8 =>
  bd (clR call 5 [v7, v8] h5 n6) (ares (fun v9 h10 n11 =>
  bd (unNot v9) fun v12 =>
  onBool v12 fun b13 => sl b13
  (bd (clR call 6 [] h10 n11) (ares (fun v14 h15 n16 =>
  some (.ret v14 h15 n16)) (fun v17 h18 n19 => some (.pan v17 h18 n19))))
  (bd (binV .rem (eqT Tryz.prog 8 3) true (!(Tryz.prog.eqGuardType Tryz.prog.depth 3)) (.int .i64 300) (.int .i64 z2)) fun v20 =>
  bd (binV .add (eqT Tryz.prog 8 3) true (!(Tryz.prog.eqGuardType Tryz.prog.depth 3)) (.int .i64 300) v20) fun v21 =>
  bd (binV .rem (eqT Tryz.prog 8 3) true (!(Tryz.prog.eqGuardType Tryz.prog.depth 3)) (.int .i64 300) v21) fun v22 =>
  bd (binV .add (eqT Tryz.prog 8 3) true (!(Tryz.prog.eqGuardType Tryz.prog.depth 3)) v22 (.int .i64 1)) fun v23 =>
  letH (hset h10 n11 (.cells [(.int .i64 0), (.str 0 0), (.str 0 0), (.int .i64 0), .nilslice])) (Nat.succ n11) fun h24 n25 =>
  bd (bd (putCells h24 n11 0 5 [(.int .i64 21), (.str 0 0), (.str 1 113), (.int .i64 0), .nilslice]) (skipR n25)) (ares (fun v26 h27 n28 =>
  bd (ldA 5 h27 r1.1) fun v29 =>
  bd (ldA 5 h27 r4.1) fun v30 =>
  bd (clR call 7 [v29, v30, v23] h27 n28) (ares (fun v31 h32 n33 =>
  bd (extV v31 0) fun v34 =>
  bd (extV v31 1) fun v35 =>
  bd (extV v31 2) fun v36 =>
  letH (hset h32 n33 (.cells [(.int .i64 0), (.str 0 0), (.str 0 0), (.int .i64 0), .nilslice])) (Nat.succ n33) fun h37 n38 =>
  bd (stR 5 h37 n38 (.ptr n33 0) v34) (ares (fun v39 h40 n41 =>
  bd (clR call 8 [v36] h40 n41) (ares (fun v42 h43 n44 =>
  bd (binV .eql (eqT Tryz.prog 8 3) true (!(Tryz.prog.eqGuardType Tryz.prog.depth 3)) (.int .i64 9) v42) fun v45 =>
  onBool v45 fun b46 => sl b46
  (bd (clR call 6 [] h43 n44) (ares (fun v47 h48 n49 =>
  some (.ret v47 h48 n49)) (fun v50 h51 n52 => some (.pan v50 h51 n52))))
  (bd (ldA 5 h43 r1.1) fun v53 =>
  bd (ldA 5 h43 r4.1) fun v54 =>
  bd (loadB (pkAgg 5) h43 n11 0) fun v55 =>
  bd (rowR n44 [(.int .i64 0), (.str 0 0), (.str 0 0), (.int .i64 0), .nilslice] 2 5 [(0, 5, v54), (5, 5, v55)]) fun r56 =>
  letH (hset h43 n44 r56.2) (Nat.succ n44) fun h57 n58 =>
  bd (bld [(.int .i64 0), (.str 0 0), (.str 0 0), (.int .i64 0), .nilslice] [(0, 1, (.int .i64 28)), (2, 1, (.str 1 113)), (4, 1, r56.1)]) fun v59 =>
  bd (binV .add (eqT Tryz.prog 8 3) true (!(Tryz.prog.eqGuardType Tryz.prog.depth 3)) (.int .i64 9) v23) fun v60 =>
  bd (clR call 7 [v53, v59, v60] h57 n58) (ares (fun v61 h62 n63 =>
  bd (extV v61 0) fun v64 =>
  bd (extV v61 1) fun v65 =>
  bd (extV v61 2) fun v66 =>
  letH (hset h62 n63 (.cells [(.int .i64 0), (.str 0 0), (.str 0 0), (.int .i64 0), .nilslice])) (Nat.succ n63) fun h67 n68 =>
  bd (stR 5 h67 n68 (.ptr n63 0) v64) (ares (fun v69 h70 n71 =>
  bd (ldA 5 h70 r1.1) fun v72 =>
  bd (loadB (pkAgg 5) h70 n11 0) fun v73 =>
  bd (rowR n71 [(.int .i64 0), (.str 0 0), (.str 0 0), (.int .i64 0), .nilslice] 1 5 [(0, 5, v73)]) fun r74 =>
  letH (hset h70 n71 r74.2) (Nat.succ n71) fun h75 n76 =>
  bd (bld [(.int .i64 0), (.str 0 0), (.str 0 0), (.int .i64 0), .nilslice] [(0, 1, (.int .i64 26)), (2, 1, (.str 1 113)), (4, 1, r74.1)]) fun v77 =>
  bd (ldA 5 h75 r4.1) fun v78 =>
  bd (rowR n76 [(.int .i64 0), (.str 0 0), (.str 0 0), (.int .i64 0), .nilslice] 2 5 [(0, 5, v77), (5, 5, v78)]) fun r79 =>
  letH (hset h75 n76 r79.2) (Nat.succ n76) fun h80 n81 =>
  bd (bld [(.int .i64 0), (.str 0 0), (.str 0 0), (.int .i64 0), .nilslice] [(0, 1, (.int .i64 27)), (4, 1, r79.1)]) fun v82 =>
  bd (binV .add (eqT Tryz.prog 8 3) true (!(Tryz.prog.eqGuardType Tryz.prog.depth 3)) (.int .i64 9) v23) fun v83 =>
  bd (clR call 7 [v72, v82, v83] h80 n81) (ares (fun v84 h85 n86 =>
  bd (extV v84 0) fun v87 =>
  bd (extV v84 1) fun v88 =>
  bd (extV v84 2) fun v89 =>
  letH (hset h85 n86 (.cells [(.int .i64 0), (.str 0 0), (.str 0 0), (.int .i64 0), .nilslice])) (Nat.succ n86) fun h90 n91 =>
  bd (stR 5 h90 n91 (.ptr n86 0) v87) (ares (fun v92 h93 n94 =>
  bd (ldA 5 h93 r1.1) fun v95 =>
  bd (ldA 5 h93 r4.1) fun v96 =>
  bd (loadB (pkAgg 5) h93 n11 0) fun v97 =>
  bd (rowR n94 [(.int .i64 0), (.str 0 0), (.str 0 0), (.int .i64 0), .nilslice] 3 5 [(0, 5, v96), (5, 5, (.agg [(.int .i64 12), (.str 0 0), (.str 1 113), (.int .i64 0), .nilslice])), (10, 5, v97)]) fun r98 =>
  letH (hset h93 n94 r98.2) (Nat.succ n94) fun h99 n100 =>
  bd (bld [(.int .i64 0), (.str 0 0), (.str 0 0), (.int .i64 0), .nilslice] [(0, 1, (.int .i64 29)), (4, 1, r98.1)]) fun v101 =>
  bd (binV .add (eqT Tryz.prog 8 3) true (!(Tryz.prog.eqGuardType Tryz.prog.depth 3)) (.int .i64 9) v23) fun v102 =>
  bd (clR call 7 [v95, v101, v102] h99 n100) (ares (fun v103 h104 n105 =>
  bd (extV v103 0) fun v106 =>
  bd (extV v103 1) fun v107 =>
  bd (extV v103 2) fun v108 =>
  letH (hset h104 n105 (.cells [(.int .i64 0), (.str 0 0), (.str 0 0), (.int .i64 0), .nilslice])) (Nat.succ n105) fun h109 n110 =>
  bd (stR 5 h109 n110 (.ptr n105 0) v106) (ares (fun v111 h112 n113 =>
  bd (clR call 8 [v36] h112 n113) (ares (fun v114 h115 n116 =>
  bd (clR call 8 [v66] h115 n116) (ares (fun v117 h118 n119 =>
  bd (binV .neq (eqT Tryz.prog 8 3) false (!(Tryz.prog.eqGuardType Tryz.prog.depth 3)) v117 v114) fun v120 =>
  bd (wantV false v120) fun b121 => bd (sl b121 (some v36) (some (.tuple []))) fun v122 =>
  bd (wantV false v120) fun b123 => bd (sl b123 (clR call 8 [v122] h118 n119) (some (.val (.tuple []) h118 n119))) (ares (fun v124 h125 n126 =>
  bd (wantV false v120) fun b127 => bd (sl b127 (some v89) (some (.tuple []))) fun v128 =>
  bd (wantV false v120) fun b129 => bd (sl b129 (clR call 8 [v128] h125 n126) (some (.val (.tuple []) h125 n126))) (ares (fun v130 h131 n132 =>
  bd (wantV false v120) fun b133 => bd (sl b133 ((binV .neq (eqT Tryz.prog 8 3) false (!(Tryz.prog.eqGuardType Tryz.prog.depth 3)) v130 v124)) (some (.tuple []))) fun v134 =>
  bd (pickV v120 (.bool true) v134) fun v135 =>
  bd (wantV false v135) fun b136 => bd (sl b136 (some v36) (some (.tuple []))) fun v137 =>
  bd (wantV false v135) fun b138 => bd (sl b138 (clR call 8 [v137] h131 n132) (some (.val (.tuple []) h131 n132))) (ares (fun v139 h140 n141 =>
  bd (wantV false v135) fun b142 => bd (sl b142 (some v108) (some (.tuple []))) fun v143 =>
  bd (wantV false v135) fun b144 => bd (sl b144 (clR call 8 [v143] h140 n141) (some (.val (.tuple []) h140 n141))) (ares (fun v145 h146 n147 =>
  bd (wantV false v135) fun b148 => bd (sl b148 ((binV .neq (eqT Tryz.prog 8 3) false (!(Tryz.prog.eqGuardType Tryz.prog.depth 3)) v145 v139)) (some (.tuple []))) fun v149 =>
  bd (pickV v135 (.bool true) v149) fun v150 =>
  bd (wantV false v150) fun b151 => bd (sl b151 ((loadB (pkAgg 5) h146 n33 0)) (some (.tuple []))) fun v152 =>
  bd (wantV false v150) fun b153 => bd (sl b153 ((loadB (pkAgg 5) h146 n63 0)) (some (.tuple []))) fun v154 =>
  bd (wantV false v150) fun b155 => bd (sl b155 (clR call 9 [v152, v154] h146 n147) (some (.val (.tuple []) h146 n147))) (ares (fun v156 h157 n158 =>
  bd (wantV false v150) fun b159 => bd (sl b159 ((unNot v156)) (some (.tuple []))) fun v160 =>
  bd (pickV v150 (.bool true) v160) fun v161 =>
  bd (wantV false v161) fun b162 => bd (sl b162 ((loadB (pkAgg 5) h157 n33 0)) (some (.tuple []))) fun v163 =>
  bd (wantV false v161) fun b164 => bd (sl b164 ((loadB (pkAgg 5) h157 n86 0)) (some (.tuple []))) fun v165 =>
  bd (wantV false v161) fun b166 => bd (sl b166 (clR call 9 [v163, v165] h157 n158) (some (.val (.tuple []) h157 n158))) (ares (fun v167 h168 n169 =>
  bd (wantV false v161) fun b170 => bd (sl b170 ((unNot v167)) (some (.tuple []))) fun v171 =>
  bd (pickV v161 (.bool true) v171) fun v172 =>
  bd (wantV false v172) fun b173 => bd (sl b173 ((loadB (pkAgg 5) h168 n33 0)) (some (.tuple []))) fun v174 =>
  bd (wantV false v172) fun b175 => bd (sl b175 ((loadB (pkAgg 5) h168 n105 0)) (some (.tuple []))) fun v176 =>
  bd (wantV false v172) fun b177 => bd (sl b177 (clR call 9 [v174, v176] h168 n169) (some (.val (.tuple []) h168 n169))) (ares (fun v178 h179 n180 =>
  bd (wantV false v172) fun b181 => bd (sl b181 ((unNot v178)) (some (.tuple []))) fun v182 =>
  bd (pickV v172 (.bool true) v182) fun v183 =>
  onBool v183 fun b184 => sl b184
  (some (.ret (.bool false) h179 n180))
  (bd (clR call 8 [v36] h179 n180) (ares (fun v185 h186 n187 =>
  bd (binV .neq (eqT Tryz.prog 8 3) true (!(Tryz.prog.eqGuardType Tryz.prog.depth 3)) (.int .i64 0) v185) fun v188 =>
  bd (wantV false v188) fun b189 => bd (sl b189 (some v65) (some (.tuple []))) fun v190 =>
  bd (wantV false v188) fun b191 => bd (sl b191 (some v35) (some (.tuple []))) fun v192 =>
  bd (wantV false v188) fun b193 => bd (sl b193 ((binV .add (eqT Tryz.prog 8 3) true (!(Tryz.prog.eqGuardType Tryz.prog.depth 3)) (.int .i64 2) v192)) (some (.tuple []))) fun v194 =>
  bd (wantV false v188) fun b195 => bd (sl b195 ((binV .eql (eqT Tryz.prog 8 3) false (!(Tryz.prog.eqGuardType Tryz.prog.depth 3)) v194 v190)) (some (.tuple []))) fun v196 =>
  bd (wantV false v188) fun b197 => bd (sl b197 (some v196) (some (.tuple []))) fun v198 =>
  bd (wantV true v198) fun b199 => bd (sl b199 (some v88) (some (.tuple []))) fun v200 =>
  bd (wantV true v198) fun b201 => bd (sl b201 (some v35) (some (.tuple []))) fun v202 =>
  bd (wantV true v198) fun b203 => bd (sl b203 ((binV .add (eqT Tryz.prog 8 3) true (!(Tryz.prog.eqGuardType Tryz.prog.depth 3)) (.int .i64 3) v202)) (some (.tuple []))) fun v204 =>
  bd (wantV true v198) fun b205 => bd (sl b205 ((binV .eql (eqT Tryz.prog 8 3) false (!(Tryz.prog.eqGuardType Tryz.prog.depth 3)) v204 v200)) (some (.tuple []))) fun v206 =>
  bd (wantV false v188) fun b207 => bd (sl b207 ((pickV v198 v206 (.bool false))) (some (.tuple []))) fun v208 =>
  bd (wantV false v188) fun b209 => bd (sl b209 (some v208) (some (.tuple []))) fun v210 =>
  bd (wantV true v210) fun b211 => bd (sl b211 (some v107) (some (.tuple []))) fun v212 =>
  bd (wantV true v210) fun b213 => bd (sl b213 (some v35) (some (.tuple []))) fun v214 =>
  bd (wantV true v210) fun b215 => bd (sl b215 ((binV .add (eqT Tryz.prog 8 3) true (!(Tryz.prog.eqGuardType Tryz.prog.depth 3)) (.int .i64 2) v214)) (some (.tuple []))) fun v216 =>
  bd (wantV true v210) fun b217 => bd (sl b217 ((binV .eql (eqT Tryz.prog 8 3) false (!(Tryz.prog.eqGuardType Tryz.prog.depth 3)) v216 v212)) (some (.tuple []))) fun v218 =>
  bd (wantV false v188) fun b219 => bd (sl b219 ((pickV v210 v218 (.bool false))) (some (.tuple []))) fun v220 =>
  bd (pickV v188 (.bool true) v220) fun v221 =>
  bd (wantV true v221) fun b222 => bd (sl b222 (clR call 6 [] h186 n187) (some (.val (.tuple []) h186 n187))) (ares (fun v223 h224 n225 =>
  bd (pickV v221 v223 (.bool false)) fun v226 =>
  some (.ret v226 h224 n225)) (fun v227 h228 n229 => some (.pan v227 h228 n229)))) (fun v230 h231 n232 => some (.pan v230 h231 n232))))) (fun v233 h234 n235 => some (.pan v233 h234 n235)))) (fun v236 h237 n238 => some (.pan v236 h237 n238)))) (fun v239 h240 n241 => some (.pan v239 h240 n241)))) (fun v242 h243 n244 => some (.pan v242 h243 n244)))) (fun v245 h246 n247 => some (.pan v245 h246 n247)))) (fun v248 h249 n250 => some (.pan v248 h249 n250)))) (fun v251 h252 n253 => some (.pan v251 h252 n253)))) (fun v254 h255 n256 => some (.pan v254 h255 n256)))) (fun v257 h258 n259 => some (.pan v257 h258 n259)))) (fun v260 h261 n262 => some (.pan v260 h261 n262)))) (fun v263 h264 n265 => some (.pan v263 h264 n265)))) (fun v266 h267 n268 => some (.pan v266 h267 n268)))) (fun v269 h270 n271 => some (.pan v269 h270 n271)))) (fun v272 h273 n274 => some (.pan v272 h273 n274)))) (fun v275 h276 n277 => some (.pan v275 h276 n277))))) (fun v278 h279 n280 => some (.pan v278 h279 n280)))) (fun v281 h282 n283 => some (.pan v281 h282 n283)))) (fun v284 h285 n286 => some (.pan v284 h285 n286)))) (fun v287 h288 n289 => some (.pan v287 h288 n289))))) (fun v290 h291 n292 => some (.pan v290 h291 n292)))
theorem F4_eq {sp : Specs} (hsp : sp 4 = none) (n : Nat) (call : CallF) (a0 : AV) (a1 : AV) (z2 : Int) (h : Heap) (nx : Nat) : callS Tryz.prog true sp locOfF n call 4 [a0, a1, (.int .i64 z2)] h nx = F4 n call a0 a1 z2 h nx :=
  (call_eq2 Tryz.func4 (c := C4) (N := 143) (dp := 8) (L := 11150372266958312624538890910370216650211328) (tm := (.fn (tmL tm0 [(2, (.int .i64 z2)), (1, a1), (0, a0)]))) (by kernel_rfl) (by kernel_rfl) (by kernel_rfl) (by kernel_rfl) (by kernel_rfl) (by kernel_rfl) hsp n call h nx).trans (by kernel_rfl)
theorem E4_normal (n : Nat) (call : CallF) (f : Nat → Option AV) (h : Heap) (nx : Nat) : E4 n call h nx .normal (.fn f) [] = retL [(f 6)] h nx := by kernel_rfl
theorem E4_ret (n : Nat) (call : CallF) (f : Nat → Option AV) (h : Heap) (nx : Nat) : E4 n call h nx .ret (.fn f) [] = retL [(f 6)] h nx := by kernel_rfl
theorem E4_pan (n : Nat) (call : CallF) (v : AV) (tm : TM) (h : Heap) (nx : Nat) : E4 n call h nx (.pan v) tm [] = some (.pan v h nx) := by kernel_rfl
end Go.Proofs.YtaajedkbaahgfaaGreatDoor

/-
What the functions of the law answer: EvalLets.
-/
namespace Go.Proofs.YtaajedkbaahgfaaGreatDoor
open Go Go.AE Go.EV
set_option maxRecDepth 100000
set_option maxHeartbeats 4000000
theorem sp4 : spL 4 = none := rfl
abbrev xc : List AV := [.int .i64 21, .str 0 0, .str 1 113, .int .i64 0, .nilslice]
abbrev pc : List AV := [.int .i64 12, .str 0 0, .str 1 113, .int .i64 0, .nilslice]
theorem rd_x (σ : Sto) : RdT σ xT xc := .mk 21 (0, 0) nq 0 [] _ .nil
theorem rd_p (σ : Sto) : RdT σ patT pc := .mk 12 (0, 0) nq 0 [] _ .nil
theorem row3 {B : Nat} {σ : Sto} {t u v : Tm} {l m k : List AV} (h : RdTB B σ t l) (h' : RdTB B σ u m) (h'' : RdTB B σ v k) (id : Nat) : rowR id zt 3 5 [(0, 5, .agg l), (5, 5, .agg m), (10, 5, .agg k)] = some (.slice id 0 3 (some 3) 5, .cells (l ++ (m ++ k))) := by
  obtain ⟨ks, rfl, _⟩ := rdt_inv h; obtain ⟨ks', rfl, _⟩ := rdt_inv h'; obtain ⟨ks'', rfl, _⟩ := rdt_inv h''; rfl
/-- a term made of some, in a row of its own -/
theorem rd_row {σ : Sto} {kids : List Tm} {cs : List AV} {b : Nat} (hb : σ b = some (.cells cs)) (hl : kids.length < 100) (h : RdSB 4611686018427387904 σ kids cs 0) (k : Int) (s : Str) :
    RdT σ (.mk k (0, 0) s 0 kids) [.int .i64 k, .str 0 0, .str s.1 s.2, .int .i64 0, .slice b 0 kids.length (some kids.length) 5] := .mk k (0, 0) s 0 kids _ (.row kids b 0 (some kids.length) cs hb (by omega) h)
theorem lets_ok (M : Md) (t : Tm) (z2 : Int) {h : Heap} {nx m : Nat} {σ : Sto} {l l5 : List AV} (hm : Mem h nx m σ) (hr : RdMd 9223372036854775808 σ M l) (ht : RdTB 9223372036854775808 σ t l5) :
    ∃ h' nx' σ', Later h nx m σ h' nx' σ' ∧ Rn 4 [.agg l, .agg l5, .int .i64 z2] h nx (.ret (.bool true) h' nx') := by
  have hF : ∀ c, Ev (fun n d => F4 n (CN n d) (.agg l) (.agg l5) z2 h nx) c → Rn 4 [.agg l, .agg l5, .int .i64 z2] h nx c := fun c hc =>
    Rn.of (f := 4) (l := [.agg l, .agg l5, .int .i64 z2]) (g := fun n d => F4 n (CN n d) (.agg l) (.agg l5) z2 h nx) (fun n d => F4_eq sp4 n (CN n d) (.agg l) (.agg l5) z2 h nx) hc
  have hml := hm.mlt
  have hlo := hm.lo
  obtain ⟨hb1, hl1⟩ := box5 hr.len nx
  obtain ⟨hb2, hl2⟩ := box5 (rdt_len5 ht) (nx + 1)
  have L1 := hm.make (id := nx) (nx' := nx + 1) (.cells l) (Nat.le_refl _) (Nat.lt_succ_self _)
  have L2 := L1.trans (L1.mem.make (id := nx + 1) (nx' := nx + 1 + 1) (.cells l5) (Nat.le_refl _) (Nat.lt_succ_self _))
  have s2 : sput (sput σ nx (.cells l)) (nx + 1) (.cells l5) (nx + 1) = some (.cells l5) := sput_self _ _ _
  have s1 : sput (sput σ nx (.cells l)) (nx + 1) (.cells l5) nx = some (.cells l) := by
    unfold sput; rw [if_neg (by omega), if_pos rfl]
  have g1 := L2.mem.sat _ _ s1
  have g2 := L2.mem.sat _ _ s2
  obtain ⟨h3, n3, σ3, b, L3, hrun3, hfew⟩ := few5_ok (Nat.le_refl _) (by decide) M t L2.mem (hr.mono L2.sle) (ht.mono L2.sle)
  have K3 := L2.trans L3
  cases b with
  | false =>
    refine ⟨h3, n3, σ3, K3, hF _ ?_⟩
    unfold F4
    repeat (first | simp -eta only [SY, ↓reduceIte, Nat.reduceEqDiff, Nat.reduceAdd, hb1, hb2, r_loadB _ _ g1, r_loadB _ _ g2, hl1, hl2] | simp -eta only [KY, ↓reduceIte, Nat.reduceEqDiff])
    refine Ev.call hrun3 ?_
    repeat (first | simp -eta only [SY, ↓reduceIte, Nat.reduceEqDiff, Nat.reduceAdd] | simp -eta only [KY, ↓reduceIte, Nat.reduceEqDiff])
    refine Ev.call (alive_rn _ _) ?_
    exact Ev.some _
  | true =>
  obtain ⟨hw, hwl, _⟩ := hfew rfl
  have hsm : ∀ x ∈ M.lets, Sml x.body := fun x hx => sml_of _ 0 (hwl x hx)
  have hrT := rdt_sml (C := 4611686018427387904) (by decide) (ht.mono K3.sle) (sml_of t 0 hw)
  obtain ⟨r, hr300, a20, a21, a22⟩ := norm300 z2
  have a23 : wrapF .i64 (addI 1 (r : Int)) = ((1 + r : Nat) : Int) := add_nat (a := 1) (by omega)
  have a60 : wrapF .i64 (addI ((1 + r : Nat) : Int) 9) = ((1 + r + 9 : Nat) : Int) := add_nat (b := 9) (by omega)
  -- the name's term
  have hsx : σ3 n3 = none := K3.mem.none (Nat.le_refl _)
  have hputx : putCells (hset h3 n3 (.cells zt)) n3 0 5 xc = some (hset (hset h3 n3 (.cells zt)) n3 (.cells xc)) := putCells_ok' rfl rfl (hro_high (by rw [hset_lo, K3.lo]; have := K3.le; omega)) (by rw [hget_set, if_pos rfl]) rfl
  have Lx := (K3.mem.alloc (id := n3) (nx' := n3 + 1) (x := .cells zt) (Nat.le_refl _) (Nat.lt_succ_self _)).put (.cells xc) (id := n3) (Nat.le_refl _) (Nat.lt_succ_self _) hsx K3.mem.mlt
  have sx : sput σ3 n3 (.cells xc) n3 = some (.cells xc) := sput_self _ _ _
  generalize hσx : sput σ3 n3 (.cells xc) = σx at Lx sx
  generalize hhx : hset (hset h3 n3 (.cells zt)) n3 (.cells xc) = hx at hputx Lx
  have Kx := K3.trans Lx
  have f1 := Lx.mem.sat _ _ (Lx.sle _ _ (L3.sle _ _ s1))
  have f2 := Lx.mem.sat _ _ (Lx.sle _ _ (L3.sle _ _ s2))
  have hrTx := hrT.mono Lx.sle
  obtain ⟨q, na, ea, hE⟩ : ∃ q na ea, evalT (letsOf M) t (1 + r) = (q, na, ea) := ⟨_, _, _, rfl⟩
  obtain ⟨h4, n4, σ4, cs4, h4', L4, hrun4, hrd4, hput4, hs4, hpk4⟩ := eval_st (Nat.le_refl _) M t (by omega) (by omega) Kx.mem (hr.mono Kx.sle) hsm hrTx hE
  have K4 := Kx.trans L4
  have hxrun : (pkAgg 5).run xc 0 = some (.agg xc) := rfl
  have S1 := L4.sle _ _ (Lx.sle _ _ (L3.sle _ _ s1))
  have S2 := L4.sle _ _ (Lx.sle _ _ (L3.sle _ _ s2))
  have SX := L4.sle _ _ sx
  have f14 := K4.mem.sat _ _ S1
  have f24 := K4.mem.sat _ _ S2
  have fx4 := K4.mem.sat _ _ SX
  by_cases he9 : ea = 9
  · subst he9
    refine ⟨h4', n4 + 1, σ4, K4, hF _ ?_⟩
    unfold F4
    repeat (first | simp -eta only [SY, ↓reduceIte, Nat.reduceEqDiff, Nat.reduceAdd, hb1, hb2, r_loadB _ _ g1, r_loadB _ _ g2, hl1, hl2] | simp -eta only [KY, ↓reduceIte, Nat.reduceEqDiff])
    refine Ev.call hrun3 ?_
    repeat (first | simp -eta only [SY, ↓reduceIte, Nat.reduceEqDiff, Nat.reduceAdd, a20, a21, a22, a23, hputx, r_loadB _ _ f1, r_loadB _ _ f2, hl1, hl2] | simp -eta only [KY, ↓reduceIte, Nat.reduceEqDiff])
    refine Ev.call hrun4 ?_
    repeat (first | simp -eta only [SY, ↓reduceIte, Nat.reduceEqDiff, Nat.reduceAdd, ext0, ext1, ext2, hput4] | simp -eta only [KY, ↓reduceIte, Nat.reduceEqDiff])
    refine Ev.call (no_rn _ _ _) ?_
    repeat (first | simp -eta only [SY, ↓reduceIte, Nat.reduceEqDiff, Nat.reduceAdd, eqI_r] | simp -eta only [KY, ↓reduceIte, Nat.reduceEqDiff])
    refine Ev.call (alive_rn _ _) ?_
    exact Ev.some _
  have he9' : eqI ea 9 = false := eqI_ne he9
  obtain ⟨p1, p2, _, _, _⟩ := evalT_more (by omega) hE he9
  obtain ⟨ci, cj, ck, hEb, hEc, hEd, hcnt⟩ := evalT_lets hE he9
  have hT4 := hrTx.mono L4.sle
  -- let
  have hrow5 := row2 hT4 (rd_x σ4) (n4 + 1)
  have Lb := K4.mem.make (id := n4 + 1) (nx' := n4 + 1 + 1) (.cells (l5 ++ xc)) (Nat.le_refl _) (Nat.lt_succ_self _)
  have Kb := K4.trans Lb
  have hT5 := hT4.mono Lb.sle
  have hTl := rd_row (sput_self σ4 (n4 + 1) (.cells (l5 ++ xc))) (kids := [t, xT]) (by simp) (rds_two hT5 (rd_x _)).1 28 nq
  have hbld5 : bld zt [(0, 1, .int .i64 28), (2, 1, .str 1 113), (4, 1, .slice (n4 + 1) 0 2 (some 2) 5)] = some (.agg [.int .i64 28, .str 0 0, .str 1 113, .int .i64 0, .slice (n4 + 1) 0 2 (some 2) 5]) := rfl
  obtain ⟨h5, n5, σ5, cs5, h5', L5, hrun5, hrd5, hput5, hs5, hpk5⟩ := eval_st (Nat.le_refl _) M (letT t) (by omega) (by omega) Kb.mem (hr.mono Kb.sle) hsm hTl hEb
  have K5 := Kb.trans L5
  have LB := Lb.trans L5
  have f15 := K5.mem.sat _ _ (LB.sle _ _ S1)
  have f25 := K5.mem.sat _ _ (LB.sle _ _ S2)
  have fx5 := K5.mem.sat _ _ (LB.sle _ _ SX)
  -- application
  have hrow6 := row1 (rd_x σ5) (n5 + 1)
  have Lc := K5.mem.make (id := n5 + 1) (nx' := n5 + 1 + 1) (.cells xc) (Nat.le_refl _) (Nat.lt_succ_self _)
  have Kc := K5.trans Lc
  have hTf : RdT (sput σ5 (n5 + 1) (.cells xc)) funT [.int .i64 26, .str 0 0, .str 1 113, .int .i64 0, .slice (n5 + 1) 0 1 (some 1) 5] := rd_row (sput_self σ5 (n5 + 1) (.cells xc)) (kids := [xT]) (by simp) (rds_one (rd_x _)).1 26 nq
  have hbld6 : bld zt [(0, 1, .int .i64 26), (2, 1, .str 1 113), (4, 1, .slice (n5 + 1) 0 1 (some 1) 5)] = some (.agg [.int .i64 26, .str 0 0, .str 1 113, .int .i64 0, .slice (n5 + 1) 0 1 (some 1) 5]) := rfl
  have f25c := Kc.mem.sat _ _ (Lc.sle _ _ (LB.sle _ _ S2))
  have hT6 := (hT4.mono LB.sle).mono Lc.sle
  have hrow7 := row2 hTf hT6 (n5 + 1 + 1)
  have Ld := Kc.mem.make (id := n5 + 1 + 1) (nx' := n5 + 1 + 1 + 1) (.cells ([.int .i64 26, .str 0 0, .str 1 113, .int .i64 0, .slice (n5 + 1) 0 1 (some 1) 5] ++ l5)) (Nat.le_refl _) (Nat.lt_succ_self _)
  have Kd := Kc.trans Ld
  have hTa := rd_row (sput_self (sput σ5 (n5 + 1) (.cells xc)) (n5 + 1 + 1) (.cells ([.int .i64 26, .str 0 0, .str 1 113, .int .i64 0, .slice (n5 + 1) 0 1 (some 1) 5] ++ l5))) (kids := [funT, t]) (by simp) (rds_two (hTf.mono Ld.sle) (hT6.mono Ld.sle)).1 27 (0, 0)
  have hbld7 : bld zt [(0, 1, .int .i64 27), (4, 1, .slice (n5 + 1 + 1) 0 2 (some 2) 5)] = some (.agg [.int .i64 27, .str 0 0, .str 0 0, .int .i64 0, .slice (n5 + 1 + 1) 0 2 (some 2) 5]) := rfl
  obtain ⟨h6, n6, σ6, cs6, h6', L6, hrun6, hrd6, hput6, hs6, hpk6⟩ := eval_st (Nat.le_refl _) M (appT t) (by omega) (by omega) Kd.mem (hr.mono Kd.sle) hsm hTa hEc
  have K6 := Kd.trans L6
  have LC := (Lc.trans Ld).trans L6
  have LBC := LB.trans LC
  have f16 := K6.mem.sat _ _ (LBC.sle _ _ S1)
  have f26 := K6.mem.sat _ _ (LBC.sle _ _ S2)
  have fx6 := K6.mem.sat _ _ (LBC.sle _ _ SX)
  -- match
  have hT7 := hT4.mono LBC.sle
  have hrow8 := row3 hT7 (rd_p σ6) (rd_x σ6) (n6 + 1)
  have Lm := K6.mem.make (id := n6 + 1) (nx' := n6 + 1 + 1) (.cells (l5 ++ (pc ++ xc))) (Nat.le_refl _) (Nat.lt_succ_self _)
  have Km := K6.trans Lm
  have h3r : RdSB 4611686018427387904 (sput σ6 (n6 + 1) (.cells (l5 ++ (pc ++ xc)))) [t, patT, xT] (l5 ++ (pc ++ xc)) 0 := rds_app (rds_two (rd_p _) (rd_x _)).1 (rds_two (rd_p (sput σ6 (n6 + 1) (.cells (l5 ++ (pc ++ xc))))) (rd_x _)).2 (rds_one (hT7.mono Lm.sle)).1 (by have := (rds_one hT7).2; simpa using this)
  have hTm := rd_row (sput_self σ6 (n6 + 1) (.cells (l5 ++ (pc ++ xc)))) (kids := [t, patT, xT]) (by simp) h3r 29 (0, 0)
  have hbld8 : bld zt [(0, 1, .int .i64 29), (4, 1, .slice (n6 + 1) 0 3 (some 3) 5)] = some (.agg [.int .i64 29, .str 0 0, .str 0 0, .int .i64 0, .slice (n6 + 1) 0 3 (some 3) 5]) := rfl
  obtain ⟨h7, n7, σ7, cs7, h7', L7, hrun7, hrd7, hput7, hs7, hpk7⟩ := eval_st (Nat.le_refl _) M (matT t) (by omega) (by omega) Km.mem (hr.mono Km.sle) hsm hTm hEd
  have K7 := Km.trans L7
  have LM := Lm.trans L7
  have T4 := LM.sle _ _ (LBC.sle _ _ hs4)
  have T5 := LM.sle _ _ (LC.sle _ _ hs5)
  have T6 := LM.sle _ _ hs6
  have e4 := K7.mem.sat _ _ T4
  have e5 := K7.mem.sat _ _ T5
  obtain ⟨h8, n8, σ8, L8, hrun8⟩ := same_ok q h7' (n7 + 1) m σ7 cs4 cs5 K7.mem ((hrd4.mono LBC.sle).mono LM.sle) ((hrd5.mono LC.sle).mono LM.sle)
  have K8 := K7.trans L8
  have e48 := K8.mem.sat _ _ (L8.sle _ _ T4)
  have e68 := K8.mem.sat _ _ (L8.sle _ _ T6)
  obtain ⟨h9, n9, σ9, L9, hrun9⟩ := same_ok q h8 n8 m σ8 cs4 cs6 K8.mem (((hrd4.mono LBC.sle).mono LM.sle).mono L8.sle) ((hrd6.mono LM.sle).mono L8.sle)
  have K9 := K8.trans L9
  have e49 := K9.mem.sat _ _ (L9.sle _ _ (L8.sle _ _ T4))
  have e79 := K9.mem.sat _ _ (L9.sle _ _ (L8.sle _ _ hs7))
  obtain ⟨hA, nA, σA, LA, hrunA⟩ := same_ok q h9 n9 m σ9 cs4 cs7 K9.mem ((((hrd4.mono LBC.sle).mono LM.sle).mono L8.sle).mono L9.sle) ((hrd7.mono L8.sle).mono L9.sle)
  refine ⟨hA, nA, σA, K9.trans LA, hF _ ?_⟩
  unfold F4
  repeat (first | simp -eta only [SY, ↓reduceIte, Nat.reduceEqDiff, Nat.reduceAdd, hb1, hb2, r_loadB _ _ g1, r_loadB _ _ g2, hl1, hl2] | simp -eta only [KY, ↓reduceIte, Nat.reduceEqDiff])
  refine Ev.call hrun3 ?_
  repeat (first | simp -eta only [SY, ↓reduceIte, Nat.reduceEqDiff, Nat.reduceAdd, a20, a21, a22, a23, hputx, r_loadB _ _ f1, r_loadB _ _ f2, hl1, hl2] | simp -eta only [KY, ↓reduceIte, Nat.reduceEqDiff])
  refine Ev.call hrun4 ?_
  repeat (first | simp -eta only [SY, ↓reduceIte, Nat.reduceEqDiff, Nat.reduceAdd, ext0, ext1, ext2, hput4] | simp -eta only [KY, ↓reduceIte, Nat.reduceEqDiff])
  refine Ev.call (no_rn _ _ _) ?_
  repeat (first | simp -eta only [SY, ↓reduceIte, Nat.reduceEqDiff, Nat.reduceAdd, he9', r_loadB _ _ f14, r_loadB _ _ f24, r_loadB _ _ fx4, hl1, hl2, hxrun, hrow5, hbld5, a60] | simp -eta only [KY, ↓reduceIte, Nat.reduceEqDiff])
  refine Ev.call hrun5 ?_
  repeat (first | simp -eta only [SY, ↓reduceIte, Nat.reduceEqDiff, Nat.reduceAdd, ext0, ext1, ext2, hput5, r_loadB _ _ f15, r_loadB _ _ fx5, hl1, hxrun, hrow6, hbld6, r_loadB _ _ f25c, hl2, hrow7, hbld7, a60] | simp -eta only [KY, ↓reduceIte, Nat.reduceEqDiff])
  refine Ev.call hrun6 ?_
  repeat (first | simp -eta only [SY, ↓reduceIte, Nat.reduceEqDiff, Nat.reduceAdd, ext0, ext1, ext2, hput6, r_loadB _ _ f16, r_loadB _ _ f26, r_loadB _ _ fx6, hl1, hl2, hxrun, hrow8, hbld8, a60] | simp -eta only [KY, ↓reduceIte, Nat.reduceEqDiff])
  refine Ev.call hrun7 ?_
  repeat (first | simp -eta only [SY, ↓reduceIte, Nat.reduceEqDiff, Nat.reduceAdd, ext0, ext1, ext2, hput7] | simp -eta only [KY, ↓reduceIte, Nat.reduceEqDiff])
  refine Ev.call (no_rn _ _ _) ?_
  repeat (first | simp -eta only [SY, ↓reduceIte, Nat.reduceEqDiff, Nat.reduceAdd] | simp -eta only [KY, ↓reduceIte, Nat.reduceEqDiff])
  refine Ev.call (no_rn _ _ _) ?_
  repeat (first | simp -eta only [SY, ↓reduceIte, Nat.reduceEqDiff, Nat.reduceAdd, eqI_r] | simp -eta only [KY, ↓reduceIte, Nat.reduceEqDiff])
  refine Ev.call (no_rn _ _ _) ?_
  repeat (first | simp -eta only [SY, ↓reduceIte, Nat.reduceEqDiff, Nat.reduceAdd] | simp -eta only [KY, ↓reduceIte, Nat.reduceEqDiff])
  refine Ev.call (no_rn _ _ _) ?_
  repeat (first | simp -eta only [SY, ↓reduceIte, Nat.reduceEqDiff, Nat.reduceAdd, eqI_r] | simp -eta only [KY, ↓reduceIte, Nat.reduceEqDiff])
  refine Ev.call (no_rn _ _ _) ?_
  repeat (first | simp -eta only [SY, ↓reduceIte, Nat.reduceEqDiff, Nat.reduceAdd] | simp -eta only [KY, ↓reduceIte, Nat.reduceEqDiff])
  refine Ev.call (no_rn _ _ _) ?_
  repeat (first | simp -eta only [SY, ↓reduceIte, Nat.reduceEqDiff, Nat.reduceAdd, eqI_r, r_loadB _ _ e4, r_loadB _ _ e5, hpk4, hpk5] | simp -eta only [KY, ↓reduceIte, Nat.reduceEqDiff])
  refine Ev.call hrun8 ?_
  repeat (first | simp -eta only [SY, ↓reduceIte, Nat.reduceEqDiff, Nat.reduceAdd, r_loadB _ _ e48, r_loadB _ _ e68, hpk4, hpk6] | simp -eta only [KY, ↓reduceIte, Nat.reduceEqDiff])
  refine Ev.call hrun9 ?_
  repeat (first | simp -eta only [SY, ↓reduceIte, Nat.reduceEqDiff, Nat.reduceAdd, r_loadB _ _ e49, r_loadB _ _ e79, hpk4, hpk7] | simp -eta only [KY, ↓reduceIte, Nat.reduceEqDiff])
  refine Ev.call hrunA ?_
  repeat (first | simp -eta only [SY, ↓reduceIte, Nat.reduceEqDiff, Nat.reduceAdd] | simp -eta only [KY, ↓reduceIte, Nat.reduceEqDiff])
  refine Ev.call (no_rn _ _ _) ?_
  by_cases h0 : ea = 0
  · obtain ⟨c1, c2, c3⟩ := hcnt h0
    subst h0 c1 c2 c3
    have b2 : wrapF .i64 (addI (na : Int) 2) = ((na + 2 : Nat) : Int) := add_nat (b := 2) (by omega)
    have b3 : wrapF .i64 (addI (na : Int) 3) = ((na + 3 : Nat) : Int) := add_nat (b := 3) (by omega)
    repeat (first | simp -eta only [SY, ↓reduceIte, Nat.reduceEqDiff, Nat.reduceAdd, eqI_r, b2, b3] | simp -eta only [KY, ↓reduceIte, Nat.reduceEqDiff])
    refine Ev.call (alive_rn _ _) ?_
    refine Ev.pure fun n d => ?_
    repeat (first | simp -eta only [SY, ↓reduceIte, Nat.reduceEqDiff, Nat.reduceAdd] | simp -eta only [KY, ↓reduceIte, Nat.reduceEqDiff])
  · have h0' : eqI ea 0 = false := eqI_ne h0
    repeat (first | simp -eta only [SY, ↓reduceIte, Nat.reduceEqDiff, Nat.reduceAdd, h0'] | simp -eta only [KY, ↓reduceIte, Nat.reduceEqDiff])
    refine Ev.call (alive_rn _ _) ?_
    refine Ev.pure fun n d => ?_
    repeat (first | simp -eta only [SY, ↓reduceIte, Nat.reduceEqDiff, Nat.reduceAdd] | simp -eta only [KY, ↓reduceIte, Nat.reduceEqDiff])
end Go.Proofs.YtaajedkbaahgfaaGreatDoor

/-
A call on inputs that can be read as data: what the executor answers, the call answers.
-/
namespace Go.Proofs.YtaajedkbaahgfaaGreatDoor
open Go Go.AE Go.EV
set_option maxRecDepth 100000
theorem upon_mono {P : Program} {o : Oper} {a : Act} {res : Result Next} {R RP R' RP' : Value → World → Prop} (hu : UponOk P o a res R RP) (h1 : ∀ v w, R v w → R' v w) (h2 : ∀ v w, RP v w → RP' v w) : UponOk P o a res R' RP' :=
  fun next Q hn hq hl => hu next Q (fun v w hv => hn v w (h1 v w hv)) (fun v w hv => hq v w (h2 v w hv)) hl
theorem none_get (x : Nat) : hget .none x = none := by
  cases hb : low x with
  | true => rw [hget_low hb]; exact pget_nil _
  | false => rw [hget_high hb]; rfl
theorem rw_none (w : World) : RW Tryz.prog.globals.size (fun g => if g < Tryz.prog.globals.size then some ⟨g, 0, 0⟩ else none) (fun _ => .nilFunc) .none 1000 w := by
  refine ⟨fun x blk _ hx => (by rw [none_get] at hx; cases hx), fun x _ blk _ _ _ _ _ hx => (by rw [none_get] at hx; cases hx), fun x L hL => ?_, fun g hg => ⟨0, if_pos hg⟩, fun x blk _ hx => (by rw [none_get] at hx; cases hx), fun B hB => (by unfold exB at hB; cases hB)⟩
  have := globals_le
  by_cases hlt : x < Tryz.prog.globals.size
  · exact ⟨by omega, hok x⟩
  · rw [if_neg hlt] at hL; cases hL
theorem spL_ok : SpecOk Tryz.prog spL := by
  intro f s hs φ e h nx w args xs r ar o a hR ha hrun hr
  unfold spL at hs
  cases hb : Nat.beq f 145 with
  | true =>
    rw [hb] at hs
    cases hs
    have := natBeq hb
    subst this
    exact count_ok count_ext o a hR ha hrun hr
  | false =>
    rw [hb] at hs
    cases hb6 : Nat.beq f 6 with
    | false => rw [hb6] at hs; cases hs
    | true =>
      rw [hb6] at hs
      cases hs
      have := natBeq hb6
      subst this
      -- the example's run
      generalize hxs : xs.toList = xl at ha
      cases ha with
      | cons a l v r hv t => cases hrun
      | nil =>
        have hr1 : r = .ret (.bool true) h nx := by
          have : some (CRes.ret (.bool true) h nx) = some r := hrun
          injection this with e; exact e.symm
        subst hr1
        cases hr
        obtain ⟨h', nx', hal⟩ := isTrue_some alive_run
        have hcl := callN_ok (md := false) (loc := locOfF) (n := 500) (draw_ok prog_mixed) prog_names (specs1_ok count_ext) 100 (args := []) (xs := xs) o a (rw_none w) (by rw [hxs]; exact .nil) hal rfl
        refine upon_mono hcl (fun v w' hv => ?_) (fun v w' hv => ?_)
        · obtain ⟨av, φ', h2, nx2, he, hps, hvr⟩ := hv
          cases he
          have hkeep : ∀ B, B < w.heap.size → w'.heap[B]? = w.heap[B]? := fun B hB => hps.fr.keep B hB (by
            rintro ⟨x, blk, L, _, hx, _⟩
            rw [none_get] at hx; cases hx)
          refine ⟨.bool true, φ, h, nx, rfl, ⟨fun _ _ _ => rfl, fun _ _ h => h, Nat.le_refl _, ⟨hps.fr.size, fun B hB _ => hkeep B hB, fun B hl _ => hl, hps.fr.os, hps.fr.tape, hps.fr.output, rfl, fun B hl _ => hl⟩, ?_⟩, ?_⟩
          · refine ⟨fun b blk hb hg => ?_, hR.sep, hR.dom, hR.gl, hR.exo, fun B hB => Nat.lt_of_lt_of_le (hR.exb B hB) hps.fr.size⟩
            obtain ⟨L, hL, hB⟩ := hR.live b blk hb hg
            exact ⟨L, hL, hB.same (hkeep _ hB.lt)⟩
          · have := hvr.inv_bool
            subst this
            exact .bool true
        · obtain ⟨av, φ', h2, nx2, he, _⟩ := hv
          cases he
/-- A CALL ON WHAT CAN ONLY BE READ: what the executor answers, the call answers; nothing that stood before is turned -/
theorem open_call {f : FuncId} {fn : Func} (hf : Tryz.prog.funcs[f]? = some fn) (hspf : spL f = none) {φ : Ph} {e : Syms} {h : Heap} {nx : Nat} {w : World} {args : List AV} {xs : Array Value} (hR : RW Tryz.prog.globals.size φ e h nx w) (hro : ∀ b blk, hget h b = some blk → hro h b = true)
    (hx : VRL φ e args xs.toList) {b : Bool} {h' : Heap} {nx' : Nat} (hrun : Rn f args h nx (.ret (.bool b) h' nx')) :
    Calls Tryz.prog f xs w fun en w' => en = .returned (.bool b) ∧ Go.RowKit.Below w.heap.size w w' := by
  obtain ⟨k, hk⟩ := hrun
  have hrun := hk (k + 1) (k + 1) (by omega) (by omega)
  change callS Tryz.prog true spL locOfF (k + 1) (CN (k + 1) k) f args h nx = some (.ret (.bool b) h' nx') at hrun
  unfold callS at hrun
  rw [hspf] at hrun
  obtain ⟨cf, hcf, h1⟩ := ob_some (x := cFunc Tryz.prog locOfF f) hrun
  obtain ⟨fn', c', hf', hb', rfl⟩ := cFunc_some hcf
  rw [hf] at hf'; cases hf'
  refine (runF_ok (draw_ok prog_mixed) prog_names (callN_ok (draw_ok prog_mixed) prog_names spL_ok k) hf hb' hR hx h1).mono fun en w' hen => ?_
  cases en with
  | returned v =>
    obtain ⟨av, φ', h2, nx2, he, hps, hv⟩ := hen
    cases he
    refine ⟨by rw [hv.inv_bool], ⟨hps.fr.os, hps.fr.tape, hps.fr.output, hps.fr.size, fun B hB => hps.fr.keep B hB ?_⟩⟩
    rintro ⟨x, blk, L, hr, hg, _⟩
    rw [hro x blk hg] at hr; cases hr
  | panicked chain =>
    obtain ⟨av, φ', h2, nx2, u, he, _⟩ := hen
    cases he
  | outgrown => exact hen.elim
end Go.Proofs.YtaajedkbaahgfaaGreatDoor

/-
EvalMore and EvalLets, called on a module and a term that can be read as data: they return true; nothing that stood before is turned.
-/
namespace Go.Proofs.YtaajedkbaahgfaaGreatDoor
open Go Go.AE Go.EV
set_option maxRecDepth 100000
/-- the blocks of the world are read only -/
noncomputable def eOf (w : World) : Syms := fun i => if i % 2 = 1 ∧ i / 2 < w.heap.size then .bool true else .nilFunc
theorem ex_of (w : World) (B : Nat) : exB (eOf w) B ↔ B < w.heap.size := by
  unfold exB eOf
  have h1 : (2 * B + 1) % 2 = 1 := by omega
  have h2 : (2 * B + 1) / 2 = B := by omega
  rw [h1, h2]
  by_cases h : B < w.heap.size
  · simp [h]
  · simp [h]
noncomputable def heapOf (σ : Mm) (n : Nat) : Heap := ⟨.nil, σ, n⟩
theorem heapOf_get {e : Syms} {w : World} {dm : Nat} {φ : Ph} {σ : Mm} {n : Nat} (c : CI e w dm φ σ n) (b : Nat) : hget (heapOf σ n) b = σ b := by
  cases hb : low b with
  | true =>
    rw [hget_low hb]
    have hlt : b < 65536 := natBlt hb
    have : σ b = none := by
      cases hq : σ b with
      | none => rfl
      | some x => have := (c.sdom b x hq).1; omega
    rw [this]; exact pget_nil _
  | false => rw [hget_high hb]; rfl
theorem heapOf_ro {e : Syms} {w : World} {dm : Nat} {φ : Ph} {σ : Mm} {n : Nat} (c : CI e w dm φ σ n) (b : Nat) (blk : Blk) (hb : hget (heapOf σ n) b = some blk) : hro (heapOf σ n) b = true := by
  rw [heapOf_get c] at hb
  obtain ⟨h1, h2⟩ := c.sdom b blk hb
  have e1 : low b = false := by
    cases hq : low b with
    | false => rfl
    | true => have : b < 65536 := natBlt hq; omega
  have e2 : Nat.blt b n = true := by rw [Nat.blt_eq]; exact h2
  show andB (notB (low b)) (Nat.blt b n) = true
  rw [e1, e2]
theorem rw_of {w : World} {dm : Nat} {φ : Ph} {σ : Mm} {n : Nat} (c : CI (eOf w) w dm φ σ n) (hg : ∀ g, g < Tryz.prog.globals.size → φ g = some ⟨g, 0, 0⟩) : RW Tryz.prog.globals.size φ (eOf w) (heapOf σ n) n w := by
  refine ⟨fun b blk _ hb => ?_, fun b b' blk blk' L L' _ _ hb _ _ _ _ hro => ?_, fun b L hL => ⟨c.dom b L hL, hok b⟩, fun g h => ⟨0, hg g h⟩, fun b blk L hb _ hro => ?_, fun B hB => (ex_of w B).1 hB⟩
  · rw [heapOf_get c] at hb; exact c.live b blk hb
  · rw [heapOf_ro c b blk hb] at hro; cases hro
  · rw [heapOf_ro c b blk hb] at hro; cases hro
theorem mem_of {w : World} {dm : Nat} {φ : Ph} {σ : Mm} {n : Nat} (c : CI (eOf w) w dm φ σ n) : Mem (heapOf σ n) n 0 σ := by
  refine ⟨fun b x hb => (heapOf_get c b).trans hb, fun b x hb => (c.sdom b x hb).2, ?_, Nat.le_refl _, by have := c.ge; omega⟩
  cases hq : σ 0 with
  | none => rfl
  | some x => have := (c.sdom 0 x hq).1; omega
/-- where the laying begins -/
theorem ci_start {w : World} {B : Nat} {c : Array Value} {t : TypeId} {fr : Nat × Nat} (hB : w.heap[B]? = some (.cells c t fr)) :
    ∃ φ σ, CI (eOf w) w 65536 φ σ 65537 ∧ ∀ g, g < Tryz.prog.globals.size → φ g = some ⟨g, 0, 0⟩ := by
  have hG := globals_le
  obtain ⟨flo, fhi⟩ := fr
  refine ⟨fun g => if g < Tryz.prog.globals.size then some ⟨g, 0, 0⟩ else if g = 65536 then some ⟨B, 0, c.size⟩ else none, fun b => if b = 65536 then some (.cells []) else none, ⟨fun b blk hb => ?_, fun b L hb => ?_, fun b x hb => ?_, by omega, rfl⟩, fun g hg => if_pos hg⟩
  · by_cases h : b = 65536
    · subst h
      simp only [if_true] at hb
      injection hb with hb; subst hb
      refine ⟨⟨B, 0, c.size⟩, by rw [if_neg (by omega), if_pos rfl], c, t, flo, fhi, hB, rfl, by simp, fun hne => absurd ((ex_of w B).2 (Array.getElem?_eq_some_iff.1 hB).1) hne, fun i v hv => by simp at hv⟩
    · simp only [if_neg h] at hb; cases hb
  · by_cases h1 : b < Tryz.prog.globals.size
    · omega
    · simp only [if_neg h1] at hb
      by_cases h2 : b = 65536
      · omega
      · simp only [if_neg h2] at hb; cases hb
  · by_cases h : b = 65536
    · omega
    · simp only [if_neg h] at hb; cases hb
section
variable {H : Type} {enc : TypeId × Value → H} {W : World}
/-- a module and a term, laid -/
theorem lay_two {cs0 cs1 : Array Value} {f0 f1 : Nat} {x0 x1 : DataW H × List MemPlace} (ht0 : DataW.trod enc Tryz.prog W 0 (fun _ => true) true f0 28 cs0.toList = some x0) (ht1 : DataW.trod enc Tryz.prog W 0 (fun _ => true) true f1 31 cs1.toList = some x1)
    (hdm : ∃ (B : Nat) (c : Array Value) (t : TypeId) (fr : Nat × Nat), W.heap[B]? = some (.cells c t fr)) : ∃ φ σ n l0 l1 M t, CI (eOf W) W 65536 φ σ n ∧ (∀ g, g < Tryz.prog.globals.size → φ g = some ⟨g, 0, 0⟩) ∧ VR φ (eOf W) (.agg l0) (.agg cs0) ∧ VR φ (eOf W) (.agg l1) (.agg cs1) ∧ RdMd BB σ M l0 ∧ RdTB BB σ t l1 := by
  obtain ⟨B, c, t, fr, hB⟩ := hdm
  obtain ⟨φ, σ, hc, hg⟩ := ci_start hB
  have hall := lay_all (P := Tryz.prog) (S := plainS) (e := eOf W) (w := W) (dm := 65536) (enc := enc) (base := 0) (spare := fun _ => true) (held := true) plain_ok (fun _ => rfl) (fun B hB => (ex_of W B).2 hB)
  obtain ⟨φ1, σ1, n1, l0, c1, hn1, hp1, hs1, he1, hv1, hd1⟩ := hall f0 28 _ x0 rfl ht0 φ σ 65537 hc
  obtain ⟨φ2, σ2, n2, l1, c2, hn2, hp2, hs2, he2, hv2, hd2⟩ := hall f1 31 _ x1 rfl ht1 φ1 σ1 n1 c1
  have hG := globals_le
  obtain ⟨M, hM⟩ := d_mod (hd1.mono hs2)
  obtain ⟨t, ht⟩ := d_term _ _ _ hd2
  refine ⟨φ2, σ2, n2, l0, l1, M, t, c2, fun g h => ?_, ?_, ?_, hM, ht⟩
  · rw [he2 g (by omega), he1 g (by omega)]; exact hg g h
  · have := VR.agg (e := eOf W) l0 cs0.toList (hv1.mono hp2)
    rwa [Array.toArray_toList] at this
  · have := VR.agg (e := eOf W) l1 cs1.toList hv2
    rwa [Array.toArray_toList] at this
theorem call3 {cs0 cs1 : Array Value} {f0 f1 : Nat} {x0 x1 : DataW H × List MemPlace} (ht0 : DataW.trod enc Tryz.prog W 0 (fun _ => true) true f0 28 cs0.toList = some x0) (ht1 : DataW.trod enc Tryz.prog W 0 (fun _ => true) true f1 31 cs1.toList = some x1)
    (hdm : ∃ (B : Nat) (c : Array Value) (t : TypeId) (fr : Nat × Nat), W.heap[B]? = some (.cells c t fr)) (z2 z3 : Int) : Calls Tryz.prog 3 #[.agg cs0, .agg cs1, .int .i64 z2, .int .i64 z3] W fun en w' => en = .returned (.bool true) ∧ Go.RowKit.Below W.heap.size W w' := by
  obtain ⟨φ, σ, n, l0, l1, M, t, hc, hg, hv0, hv1, hM, ht⟩ := lay_two ht0 ht1 hdm
  obtain ⟨h', nx', σ', _, hrun⟩ := more_ok M t z2 z3 (mem_of hc) hM ht
  exact open_call Tryz.func3 rfl (rw_of hc hg) (fun b blk hb => heapOf_ro hc b blk hb) (.cons _ _ _ _ hv0 (.cons _ _ _ _ hv1 (.cons _ _ _ _ (.int _ _) (.cons _ _ _ _ (.int _ _) .nil)))) hrun
theorem call4 {cs0 cs1 : Array Value} {f0 f1 : Nat} {x0 x1 : DataW H × List MemPlace} (ht0 : DataW.trod enc Tryz.prog W 0 (fun _ => true) true f0 28 cs0.toList = some x0) (ht1 : DataW.trod enc Tryz.prog W 0 (fun _ => true) true f1 31 cs1.toList = some x1)
    (hdm : ∃ (B : Nat) (c : Array Value) (t : TypeId) (fr : Nat × Nat), W.heap[B]? = some (.cells c t fr)) (z2 : Int) : Calls Tryz.prog 4 #[.agg cs0, .agg cs1, .int .i64 z2] W fun en w' => en = .returned (.bool true) ∧ Go.RowKit.Below W.heap.size W w' := by
  obtain ⟨φ, σ, n, l0, l1, M, t, hc, hg, hv0, hv1, hM, ht⟩ := lay_two ht0 ht1 hdm
  obtain ⟨h', nx', σ', _, hrun⟩ := lets_ok M t z2 (mem_of hc) hM ht
  exact open_call Tryz.func4 rfl (rw_of hc hg) (fun b blk hb => heapOf_ro hc b blk hb) (.cons _ _ _ _ hv0 (.cons _ _ _ _ hv1 (.cons _ _ _ _ (.int _ _) .nil))) hrun
end
end Go.Proofs.YtaajedkbaahgfaaGreatDoor
