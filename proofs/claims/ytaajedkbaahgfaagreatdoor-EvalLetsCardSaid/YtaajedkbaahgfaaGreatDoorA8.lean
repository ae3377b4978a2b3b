/-
Texts of the proof, joined: Ev6, R29, R30, R31, Ev7, Ev8, R15, Ev9.
-/
import Derived.Test.YtaajedkbaahgfaaGreatDoorA7
import Derived.Test.YtaajedkbaahgfaaGreatDoorProg
set_option linter.unusedSimpArgs false
set_option linter.unusedVariables false
set_option linter.unusedSectionVars false
/-
What the functions of the law answer: all.
-/
namespace Go.Proofs.YtaajedkbaahgfaaGreatDoor
open Go Go.AE Go.EV
set_option maxRecDepth 100000
set_option maxHeartbeats 1000000

theorem pget_pdel_ne {α : Type} (d : Nat) : ∀ {j k : Nat} (t : T α), j < 2 ^ d → k < 2 ^ d → j ≠ k → pget (pathOf d j) (pdel (pathOf d k) t) = pget (pathOf d j) t := by
  induction d with
  | zero => intro j k t hj hk h; simp at hj hk; omega
  | succ d ih =>
    intro j k t hj hk h
    have hj' : j / 2 < 2 ^ d := by omega
    have hk' : k / 2 < 2 ^ d := by omega
    rw [pathOf_succ, pathOf_succ]
    by_cases a : j % 2 = 1 <;> by_cases b : k % 2 = 1
    · rw [if_pos a, if_pos b, pdel_r]
      have hne : j / 2 ≠ k / 2 := by omega
      cases t with
      | nil => rfl
      | leaf v => exact (pget_nil _).trans (pget_leaf_r _ _).symm
      | node l r => exact ih r hj' hk' hne
    · rw [if_pos a, if_neg b, pdel_l]
      cases t with
      | nil => rfl
      | leaf v => exact (pget_nil _).trans (pget_leaf_r _ _).symm
      | node l r => rfl
    · rw [if_neg a, if_pos b, pdel_r]
      cases t with
      | nil => rfl
      | leaf v => exact (pget_nil _).trans (pget_leaf_l _ _).symm
      | node l r => rfl
    · rw [if_neg a, if_neg b, pdel_l]
      have hne : j / 2 ≠ k / 2 := by omega
      cases t with
      | nil => rfl
      | leaf v => exact (pget_nil _).trans (pget_leaf_l _ _).symm
      | node l r => exact ih l hj' hk' hne
theorem hget_del (h : Heap) {a b : Nat} (hne : b ≠ a) : hget (hdel h a) b = hget h b := by
  cases hc : low a with
  | true =>
    rw [hdel_low hc]
    cases hb : low b with
    | true => rw [hget_low hb, hget_low hb]; exact pget_pdel_ne 16 h.t (low_of hb) (low_of hc) hne
    | false => rw [hget_high hb, hget_high hb]
  | false =>
    rw [hdel_high hc]
    cases hb : low b with
    | true => rw [hget_low hb, hget_low hb]
    | false =>
      rw [hget_high hb, hget_high hb]
      show sel (Nat.beq b a) none (h.f b) = h.f b
      rw [beq_ne hne]
theorem Later.del {h h' : Heap} {nx nx' m : Nat} {σ σ' : Sto} (L : Later h nx m σ h' nx' σ') {id : Nat} (hid : nx ≤ id) (hs : σ' id = none) : Later h nx m σ (hdel h' id) nx' σ' :=
  ⟨⟨fun b x hb => by rw [hget_del _ (fun e => by rw [e, hs] at hb; cases hb)]; exact L.mem.sat b x hb, L.mem.dom, L.mem.mn, by rw [hdel_lo]; exact L.mem.lo, L.mem.mlt⟩, L.le,
    fun b hb hm => by rw [hget_del _ (by omega)]; exact L.old b hb hm, by rw [hdel_lo]; exact L.lo, L.sle, L.sold⟩
theorem St.del {M : Mc} {h : Heap} {nx left : Nat} {σ : Sto} (s : St M h nx σ left) {id : Nat} (hs : σ id = none) (hm : id ≠ M.mb) : St M (hdel h id) nx σ left :=
  ⟨⟨fun b x hb => by rw [hget_del _ (fun e => by rw [e, hs] at hb; cases hb)]; exact s.mem.sat b x hb, s.mem.dom, s.mem.mn, by rw [hdel_lo]; exact s.mem.lo, s.mem.mlt⟩,
    by rw [hget_del _ (fun e => hm e.symm)]; exact s.mch, by rw [hdel_lo]; exact s.mlo, s.lets, s.le, s.hi⟩

theorem rdvr_snoc {σ : Sto} {v : Vl} {l : List AV} (hv : RdV σ v l) : ∀ {vs : List Vl} {cs : List AV} {o : Nat}, RdVr σ vs cs o → cs.length = o + 7 * vs.length → RdVr σ (vs ++ [v]) (cs ++ l) o := by
  intro vs
  induction vs with
  | nil =>
    intro cs o _ hl
    refine .cons v [] _ _ ?_ (.nil _ _)
    rw [List.drop_append_of_le_length (by simp at hl; omega), List.drop_of_length_le (by simp at hl; omega), List.nil_append, List.take_of_length_le (by rw [rdv_len hv]; omega)]
    exact hv
  | cons w vs ih =>
    intro cs o h hl
    cases h with
    | cons _ _ _ _ h r =>
      simp at hl
      refine .cons w _ _ _ ?_ (ih r (by omega))
      rw [List.drop_append_of_le_length (by omega), List.take_append_of_le_length (by simp; omega)]
      exact h
/-- a list of values, while it grows; what is written lies behind 'nx0' -/
inductive Out (nx0 mb : Nat) (h : Heap) (nx : Nat) (σ : Sto) : List Vl → AV → Prop where
  | nil : Out nx0 mb h nx σ [] .nilslice
  | row (vs : List Vl) (b : Nat) (cs : List AV) (hg : hget h b = some (.cells cs)) (hs : σ b = none) (h0 : nx0 ≤ b) (hb : b < nx) (hlo : h.lo ≤ b) (hm : b ≠ mb) (hv : RdVr σ vs cs 0) (hl : cs.length = 7 * vs.length) : Out nx0 mb h nx σ vs (.slice b 0 vs.length none 7)
theorem Out.later {nx0 mb : Nat} {h h' : Heap} {nx nx' : Nat} {σ σ' : Sto} {vs : List Vl} {out : AV} (o : Out nx0 mb h nx σ vs out) (L : Later h nx mb σ h' nx' σ') : Out nx0 mb h' nx' σ' vs out := by
  cases o with
  | nil => exact .nil
  | row vs b cs hg hs h0 hb hlo hm hv hl => exact .row vs b cs ((L.old b hb hm).trans hg) ((L.sold b hb).trans hs) h0 (Nat.lt_of_lt_of_le hb L.le) (by rw [L.lo]; exact hlo) hm (hv.mono L.sle) hl
theorem out_app {M : Mc} {nx0 : Nat} {h0 : Heap} {σ0 : Sto} {h : Heap} {nx left : Nat} {σ : Sto} {vs : List Vl} {out : AV} {v : Vl} {cs : List AV} (o : Out nx0 M.mb h nx σ vs out) (L : Later h0 nx0 M.mb σ0 h nx σ) (s : St M h nx σ left) (hv : RdV σ v cs) (hlen : vs.length + 1 < 1000000) (h0m : M.mb < nx0) (h0lo : h0.lo ≤ nx0) :
    ∃ out' h', appV 7 (hset h nx (.cells cs)) (nx + 1) (nx + 1) out (.slice nx 0 1 (some 1) 7) = some (.val out' h' (nx + 1 + 1)) ∧ Later h0 nx0 M.mb σ0 h' (nx + 1 + 1) σ ∧ St M h' (nx + 1 + 1) σ left ∧ Out nx0 M.mb h' (nx + 1 + 1) σ (vs ++ [v]) out' := by
  have hl := rdv_len hv
  have hg1 : hget (hset h nx (.cells cs)) nx = some (.cells cs) := by rw [hget_set, if_pos rfl]
  have hnx : ∀ k, nx ≤ k → σ k = none := fun k hk => by
    cases hq : σ k with
    | none => rfl
    | some y => have := s.mem.dom _ _ hq; omega
  have hsrc : srcA (hset h nx (.cells cs)) 7 1 (.slice nx 0 1 (some 1) 7) = some cs := by
    show ob (hget (hset h nx (.cells cs)) nx) _ = _
    rw [hg1]
    show ltake 7 (ldrop 0 cs) = _
    rw [ldrop_eq, List.drop_zero, ltake_eq (by omega), List.take_of_length_le (by omega)]
  have s1 := s.alloc (id := nx) (nx' := nx + 1) (.cells cs) (Nat.le_refl _) (Nat.lt_succ_self _)
  have L1 := L.trans (s.mem.alloc (id := nx) (nx' := nx + 1) (x := .cells cs) (Nat.le_refl _) (Nat.lt_succ_self _))
  have hle := L.le
  have hml := s.mem.mlt
  have hlo : h.lo ≤ nx := s.mem.lo
  cases o with
  | nil =>
    refine ⟨.slice (nx + 1) 0 1 none 7, hset (hset h nx (.cells cs)) (nx + 1) (.cells cs), ?_, L1.trans (s1.mem.alloc (Nat.le_refl _) (Nat.lt_succ_self _)), s1.alloc _ (Nat.le_refl _) (Nat.lt_succ_self _), ?_⟩
    · show ob (srcA (hset h nx (.cells cs)) 7 1 (.slice nx 0 1 (some 1) 7)) _ = _
      rw [hsrc]; rfl
    · refine .row [v] (nx + 1) cs (by rw [hget_set, if_pos rfl]) (hnx _ (by omega)) (by omega) (by omega) (by rw [hset_lo, hset_lo]; omega) (by omega) ?_ (by simpa using hl)
      have := rdvr_snoc hv (.nil [] 0) rfl
      simpa using this
  | row vs b os hg hs h0b hb hblo hbm hvs hol =>
    have s2 := s1.del hs hbm
    have L2 := L1.del h0b hs
    have hgb : hget (hset h nx (.cells cs)) b = some (.cells os) := by rw [hget_set, if_neg (by omega)]; exact hg
    refine ⟨.slice (nx + 1) 0 (vs.length + 1) none 7, hset (hdel (hset h nx (.cells cs)) b) (nx + 1) (.cells (os ++ cs)), ?_, L2.trans (s2.mem.alloc (Nat.le_refl _) (Nat.lt_succ_self _)), s2.alloc _ (Nat.le_refl _) (Nat.lt_succ_self _), ?_⟩
    · show ob (srcA (hset h nx (.cells cs)) 7 1 (.slice nx 0 1 (some 1) 7)) _ = _
      rw [hsrc]
      show guardB (allOne cs) (guardB (notB (hro (hset h nx (.cells cs)) b)) (guardB (Nat.blt (vs.length + 1) 1000000) (ob (ob (hget (hset h nx (.cells cs)) b) fun k => onCells k fun q => ltake (Nat.mul vs.length 7) (ldrop 0 q)) _))) = _
      rw [rdv_one hv, hro_high (by rw [hset_lo]; exact hblo), show Nat.blt (vs.length + 1) 1000000 = true by rw [Nat.blt_eq]; exact hlen, hgb]
      show ob (ltake (vs.length * 7) (ldrop 0 os)) _ = _
      rw [ldrop_eq, List.drop_zero, ltake_eq (by omega), List.take_of_length_le (by omega)]
      show some (ARes.val _ (hset _ _ (.cells (lapp os cs))) _) = _
      rw [lapp_eq]
    · have := Out.row (nx0 := nx0) (mb := M.mb) (h := hset (hdel (hset h nx (.cells cs)) b) (nx + 1) (.cells (os ++ cs))) (nx := nx + 1 + 1) (σ := σ) (vs ++ [v]) (nx + 1) (os ++ cs) (by rw [hget_set, if_pos rfl]) (hnx _ (by omega)) (by omega) (by omega)
        (by rw [hset_lo, hdel_lo, hset_lo]; omega) (by omega) (rdvr_snoc hv hvs (by omega)) (by simp; omega)
      simpa using this

theorem Later.speak {h h' : Heap} {nx nx' m : Nat} {σ σ' : Sto} (L : Later h nx m σ h' nx' σ') {id : Nat} {x : Blk} (hg : hget h' id = some x) (hid : nx ≤ id) (hn : id < nx') (hs : σ' id = none) (hm : id ≠ m) : Later h nx m σ h' nx' (sput σ' id x) :=
  ⟨L.mem.speak hg hn hm, L.le, L.old, L.lo, fun b y hb => sput_le hs b y (L.sle b y hb), fun b hb => by unfold sput; rw [if_neg (by omega)]; exact L.sold b hb⟩
theorem St.speak {M : Mc} {h : Heap} {nx left : Nat} {σ : Sto} (s : St M h nx σ left) {id : Nat} {x : Blk} (hg : hget h id = some x) (hn : id < nx) (hs : σ id = none) (hm : id ≠ M.mb) : St M h nx (sput σ id x) left :=
  ⟨s.mem.speak hg hn hm, s.mch, s.mlo, s.lets.mono (sput_le hs), s.le, s.hi⟩
theorem evalF_lt (lets : List (Str × Tm)) {fuel left l : Nat} {t : Tm} {env : List Fr} {v : Vl} (h : evalF lets fuel left t env = .ok v l) : l < left := by
  cases fuel with
  | zero => cases h
  | succ f => cases left with
    | zero => cases h
    | succ k =>
      change (if fits t then bodyF lets (evalF lets f) k t env else .err 8 k) = _ at h
      split at h
      · have := bodyF_out (evalF_out lets f) lets k t env
        rw [h] at this
        exact Nat.lt_succ_of_le this
      · cases h
/-- what was there before, and what came -/
def Rbefore (vs : List Vl) (r : ResL) : ResL := match r with
  | .err e l => .err e l
  | .ok ws l => .ok (vs ++ ws) l
section
variable {M : Mc} {fuel : Nat} (hev : EvOk M fuel)
include hev
theorem all_loop {h0 : Heap} {nx0 : Nat} {σ0 : Sto} (hm0 : Mem h0 nx0 M.mb σ0) (kids : List Tm) (ks e : AV) (env : List Fr) : ∀ (ts : List Tm) (i left : Nat) (vs : List Vl) (out : AV) (h : Heap) (nx : Nat) (σ : Sto) (j : Nat) (f : Nat → Option AV),
    kids.drop i = ts → RdKs σ kids ks → Later h0 nx0 M.mb σ0 h nx σ → St M h nx σ left → left ≤ fuel → vs.length + left ≤ 20000 → Out nx0 M.mb h nx σ vs out → RdE σ env e →
    f 0 = some (.ptr M.mb 0) → f 1 = some ks → f 2 = some e → f 7 = some out → f 10 = some (.int .i64 (kids.length : Int)) → f 11 = some (.int .i64 (i : Int)) →
    FinL M h0 nx0 σ0 (fun n d => kLoop (R28_10 n (CN n d)) (n - j) (.fn f) [] h nx (kLeave 0 (kThen (R28_6 n (CN n d)) (E28 n (CN n d))))) (Rbefore vs (allF (fun l t => evalF M.lets fuel l t env) left ts)) := by
  intro ts
  induction ts with
  | nil =>
    intro i left vs out h nx σ j f hts hks L s hle hb20 ho he f0 f1 f2 f7 f10 f11
    have hge : ¬ i < kids.length := by have := congrArg List.length hts; simp at this; omega
    have hlt : ltI (i : Int) (kids.length : Int) = false := by rw [ltI_nat]; simpa using hge
    have hrun : ∀ c, c = CRes.ret out h nx → Ev (fun n d => kLoop (R28_10 n (CN n d)) (n - j) (.fn f) [] h nx (kLeave 0 (kThen (R28_6 n (CN n d)) (E28 n (CN n d))))) c := by
      intro c hc
      subst hc
      refine Ev.round (B := fun n d => R28_10 n (CN n d)) (tm := fun _ _ => .fn f) (K := fun n d => kLeave 0 (kThen (R28_6 n (CN n d)) (E28 n (CN n d)))) ?_
      refine Ev.pure fun n d => ?_
      repeat (first | simp -eta only [SY, ↓reduceIte, Nat.reduceEqDiff, Nat.reduceAdd, f0, f1, f2, f7, f10, f11, hlt] | simp -eta only [KY, ↓reduceIte, Nat.reduceEqDiff, R28_10_eq, R28_6_eq, E28_ret])
    show FinL M h0 nx0 σ0 _ (.ok (vs ++ []) left)
    rw [List.append_nil]
    cases ho with
    | nil => exact ⟨h, nx, σ, .nilslice, L, s, hrun _ rfl, .nil⟩
    | row vs b cs hg hs h0 hb hlo hm hv hl =>
      refine ⟨h, nx, sput σ b (.cells cs), .slice b 0 vs.length none 7, L.speak hg h0 hb hs hm, s.speak hg hb hs hm, hrun _ rfl, ?_⟩
      exact .row vs b 0 none cs (sput_self _ _ _) (by omega) (hv.mono (sput_le hs))
  | cons t ts ih =>
    intro i left vs out h nx σ j f hts hks L s hle hb20 ho he f0 f1 f2 f7 f10 f11
    have hi := drop_lt hts
    have hlt : ltI (i : Int) (kids.length : Int) = true := by rw [ltI_nat]; simpa using hi
    obtain ⟨pb, po, cap, hkse, hpt, hblt, hbig⟩ := rdks_at hks hts
    subst hkse
    have hE := hev left hle t env h nx σ pb (po + i * 5) e s hpt he
    have hA : allF (fun l t => evalF M.lets fuel l t env) left (t :: ts) = (match evalF M.lets fuel left t env with | .err e l => .err e l | .ok v l => match allF (fun l t => evalF M.lets fuel l t env) l ts with | .err e l => .err e l | .ok vs l => .ok (v :: vs) l) := by
      rw [allF]
      cases evalF M.lets fuel left t env with
      | err e l => rfl
      | ok v l => simp only; cases allF (fun l t => evalF M.lets fuel l t env) l ts <;> rfl
    rw [hA]
    cases hr : evalF M.lets fuel left t env with
    | err e1 l1 =>
      rw [hr] at hE
      obtain ⟨h', nx', σ', L1, s1, hrun⟩ := hE
      refine ⟨h', nx', σ', L.trans L1, s1, ?_⟩
      refine Ev.round (B := fun n d => R28_10 n (CN n d)) (tm := fun _ _ => .fn f) (K := fun n d => kLeave 0 (kThen (R28_6 n (CN n d)) (E28 n (CN n d)))) ?_
      repeat (first | simp -eta only [SY, ↓reduceIte, Nat.reduceEqDiff, Nat.reduceAdd, f0, f1, f2, f7, f10, f11, hlt, hblt, beq55] | simp -eta only [KY, ↓reduceIte, Nat.reduceEqDiff, R28_10_eq])
      refine Ev.callPan hrun ?_
      refine Ev.pure fun n d => ?_
      repeat (first | simp -eta only [SY, ↓reduceIte, Nat.reduceEqDiff, Nat.reduceAdd] | simp -eta only [KY, ↓reduceIte, Nat.reduceEqDiff, E28_pan])
    | ok v l =>
      rw [hr] at hE
      obtain ⟨h', nx', σ', cs, L1, s1, hrun, hv⟩ := hE
      have hl := evalF_lt M.lets hr
      obtain ⟨out', h2, happ, L2, s2, ho2⟩ := out_app (ho.later L1) (L.trans L1) s1 hv (by omega) hm0.mlt hm0.lo
      have hrow : rowR nx' [.int .i64 0, .str 0 0, .str 0 0, .int .i64 0, .nilslice, .nilptr, .nilptr] 1 7 [(0, 7, .agg cs)] = some (.slice nx' 0 1 (some 1) 7, .cells cs) := by
        match cs, rdv_len hv with
        | [_, _, _, _, _, _, _], _ => rfl
      have L3 := L1.trans ((s1.mem.alloc (id := nx') (nx' := nx' + 1 + 1) (x := .cells cs) (Nat.le_refl _) (by omega)))
      have hinc := inc_small hi (by omega)
      have hih := ih (i + 1) l (vs ++ [v]) out' h2 (nx' + 1 + 1) σ' (j + 1) (tmL f [(11, .int .i64 ((i + 1 : Nat) : Int)), (7, out'), (8, .int .i64 (i : Int)), (12, .bool true)])
        (drop_tail hts) (hks.mono L1.sle) L2 s2 (by omega) (by simp; omega) ho2 (he.mono L1.sle) f0 f1 f2 rfl f10 rfl
      have hR : Rbefore vs (match allF (fun l t => evalF M.lets fuel l t env) l ts with | .err e l => .err e l | .ok vs l => .ok (v :: vs) l) = Rbefore (vs ++ [v]) (allF (fun l t => evalF M.lets fuel l t env) l ts) := by
        cases allF (fun l t => evalF M.lets fuel l t env) l ts with
        | err e l => rfl
        | ok ws l => simp [Rbefore]
      show FinL M h0 nx0 σ0 _ (Rbefore vs (match allF (fun l t => evalF M.lets fuel l t env) l ts with | .err e l => .err e l | .ok vs l => .ok (v :: vs) l))
      rw [hR]
      refine hih.map fun c hc => ?_
      refine Ev.round (B := fun n d => R28_10 n (CN n d)) (tm := fun _ _ => .fn f) (K := fun n d => kLeave 0 (kThen (R28_6 n (CN n d)) (E28 n (CN n d)))) ?_
      repeat (first | simp -eta only [SY, ↓reduceIte, Nat.reduceEqDiff, Nat.reduceAdd, f0, f1, f2, f7, f10, f11, hlt, hblt, beq55] | simp -eta only [KY, ↓reduceIte, Nat.reduceEqDiff, R28_10_eq])
      refine Ev.call hrun ?_
      repeat (first | simp -eta only [SY, ↓reduceIte, Nat.reduceEqDiff, Nat.reduceAdd, hrow, happ, f11, hinc] | simp -eta only [KY, ↓reduceIte, Nat.reduceEqDiff])
      exact hc
theorem all_ok {left : Nat} (hle : left ≤ fuel) {kids : List Tm} {env : List Fr} {h : Heap} {nx : Nat} {σ : Sto} {ks e : AV} (s : St M h nx σ left) (hk : RdKs σ kids ks) (he : RdE σ env e) :
    FinL M h nx σ (fun n d => CN n d 28 [.ptr M.mb 0, ks, e] h nx) (allF (fun l t => evalF M.lets fuel l t env) left kids) := by
  have hl := rdks_len hk
  have h20 := s.le
  have h21 := s.hi
  have hlp := all_loop hev s.mem kids ks e env kids 0 left [] .nilslice h nx σ 0 (tmL (tmL (tmL (tmL tm0 [(2, e), (1, ks), (0, .ptr M.mb 0)]) [(6, .nilslice)]) [(7, .nilslice)]) [(11, .int .i64 0), (10, .int .i64 (kids.length : Int))])
    rfl hk (Later.refl s.mem) s hle (by simp; omega) .nil he rfl rfl rfl rfl rfl rfl
  have hR : Rbefore [] (allF (fun l t => evalF M.lets fuel l t env) left kids) = allF (fun l t => evalF M.lets fuel l t env) left kids := by
    cases allF (fun l t => evalF M.lets fuel l t env) left kids <;> rfl
  rw [hR] at hlp
  refine hlp.map fun c hc => ?_
  refine Rn.of (f := 28) (l := [.ptr M.mb 0, ks, e]) (g := fun n d => F28 n (CN n d) M.mb 0 ks e h nx) (fun n d => F28_eq sp28 n (CN n d) M.mb 0 ks e h nx) ?_
  unfold F28
  repeat (first | simp -eta only [SY, ↓reduceIte, Nat.reduceEqDiff, Nat.reduceAdd, hl] | simp -eta only [KY, ↓reduceIte, Nat.reduceEqDiff, R28_0_eq, R28_1_eq, R28_2_eq, R28_3_eq, R28_4_eq, R28_5_eq, R28_7_eq, R28_8_eq, R28_9_eq])
  exact Ev.loop (B := fun n d => R28_10 n (CN n d)) (tm := fun _ _ => .fn _) hc
end
end Go.Proofs.YtaajedkbaahgfaaGreatDoor

/-
Residual of function 29
-/
namespace Go.Proofs.YtaajedkbaahgfaaGreatDoor
open Go Go.AE
set_option maxRecDepth 100000
/-! (touchstone/eval.machine).apply -/
noncomputable def C29 : Code := Tryz.f29.body.getD .skip
noncomputable def E29 (n : Nat) (call : CallF) : KX CRes := kEnd Tryz.prog true locOfF n call (mapL (rsVar Tryz.prog 6) Tryz.f29.results.toList)
noncomputable def F29 (n : Nat) (call : CallF) (pb0 po0 : Nat) (pb1 po1 : Nat) (a2 : AV) (h : Heap) (nx : Nat) : Option CRes :=
  letH (hset h nx (.cells [(.int .i64 0), (.str 0 0), (.str 0 0), (.int .i64 0), .nilslice, .nilptr, .nilptr])) (Nat.succ nx) fun h1 n2 =>
  bd (loadB pkOne h1 pb1 (po1 + 4)) fun v3 =>
  bd (idx 5 v3 (.int .i64 0)) fun v4 =>
  bd (clR call 15 [(.ptr pb0 po0), v4, a2] h1 n2) (ares (fun v5 h6 n7 =>
  letH (hset h6 n7 (.cells [(.int .i64 0), (.str 0 0), (.str 0 0), (.int .i64 0), .nilslice, .nilptr, .nilptr])) (Nat.succ n7) fun h8 n9 =>
  bd (stR 7 h8 n9 (.ptr n7 0) v5) (ares (fun v10 h11 n12 =>
  bd (loadB pkOne h11 pb1 (po1 + 4)) fun v13 =>
  bd (idx 5 v13 (.int .i64 1)) fun v14 =>
  bd (clR call 15 [(.ptr pb0 po0), v14, a2] h11 n12) (ares (fun v15 h16 n17 =>
  letH (hset h16 n17 (.cells [(.int .i64 0), (.str 0 0), (.str 0 0), (.int .i64 0), .nilslice, .nilptr, .nilptr])) (Nat.succ n17) fun h18 n19 =>
  bd (stR 7 h18 n19 (.ptr n17 0) v15) (ares (fun v20 h21 n22 =>
  bd (loadB pkOne h21 n7 5) fun v23 =>
  bd (binV .eql (eqT Tryz.prog 8 52) true (!(Tryz.prog.eqGuardType Tryz.prog.depth 52)) .nilptr v23) fun v24 =>
  onBool v24 fun b25 => sl b25
  (bd (clR call 26 [] h21 n22) (ares (fun v26 h27 n28 =>
  bd (stR 7 h27 n28 (.ptr nx 0) v26) (ares (fun v29 h30 n31 =>
  retL [(loadB (pkAgg 7) h30 nx 0)] h30 n31) (fun v32 h33 n34 => some (.pan v32 h33 n34)))) (fun v35 h36 n37 => some (.pan v35 h36 n37))))
  (bd (bd ((loadB pkOne h21 n7 5)) fun v38 => some v38) fun v39 =>
  bd (bd ((rNilV v39)) fun v40 => some v40) fun v41 =>
  bd (bd ((adr 4 v41)) fun v42 => some v42) fun v43 =>
  bd (bd ((ld1 h21 v43)) fun v44 => some v44) fun v45 =>
  bd (bd ((idx 5 v45 (.int .i64 0))) fun v46 => some v46) fun v47 =>
  bd (bd ((loadB pkOne h21 n7 5)) fun v48 => some v48) fun v49 =>
  bd (bd ((rNilV v49)) fun v50 => some v50) fun v51 =>
  bd (bd ((adr 2 v51)) fun v52 => some v52) fun v53 =>
  bd (bd ((ld1 h21 v53)) fun v54 => some v54) fun v55 =>
  bd (bd ((loadB (pkAgg 7) h21 n17 0)) fun v56 => some v56) fun v57 =>
  bd (bd ((loadB pkOne h21 n7 6)) fun v58 => some v58) fun v59 =>
  bd (bd ((bld [(.str 0 0), (.int .i64 0), (.str 0 0), (.str 0 0), (.int .i64 0), .nilslice, .nilptr, .nilptr, .nilptr, .nilptr] [(0, 1, v55), (1, 7, v57), (9, 1, v59)])) fun v60 => some v60) fun v61 =>
  bd (boxR (n22 + 16) v61) fun r62 =>
  letH (hset h21 (n22 + 16) r62.2) (n22 + 19) fun h63 _ =>
  bd (clR call 15 [(.ptr pb0 po0), v47, r62.1] h63 (n22 + 19)) (ares (fun v64 h65 n66 =>
  bd (stR 7 h65 n66 (.ptr nx 0) v64) (ares (fun v67 h68 n69 =>
  retL [(loadB (pkAgg 7) h68 nx 0)] h68 n69) (fun v70 h71 n72 => some (.pan v70 h71 n72)))) (fun v73 h74 n75 => some (.pan v73 h74 n75))))) (fun v76 h77 n78 => some (.pan v76 h77 n78)))) (fun v79 h80 n81 => some (.pan v79 h80 n81)))) (fun v82 h83 n84 => some (.pan v82 h83 n84)))) (fun v85 h86 n87 => some (.pan v85 h86 n87)))
theorem F29_eq {sp : Specs} (hsp : sp 29 = none) (n : Nat) (call : CallF) (pb0 po0 : Nat) (pb1 po1 : Nat) (a2 : AV) (h : Heap) (nx : Nat) : callS Tryz.prog true sp locOfF n call 29 [(.ptr pb0 po0), (.ptr pb1 po1), a2] h nx = F29 n call pb0 po0 pb1 po1 a2 h nx :=
  (call_eq2 Tryz.func29 (c := C29) (N := 47) (dp := 6) (L := 140737354137088) (tm := (.fn (tmL tm0 [(2, a2), (1, (.ptr pb1 po1)), (0, (.ptr pb0 po0))]))) (by kernel_rfl) (by kernel_rfl) (by kernel_rfl) (by kernel_rfl) (by kernel_rfl) (by kernel_rfl) hsp n call h nx).trans (by kernel_rfl)
theorem E29_normal (n : Nat) (call : CallF) (f : Nat → Option AV) (h : Heap) (nx : Nat) : E29 n call h nx .normal (.fn f) [] = retL [(bd (f 6) fun v88 => (ldA 7 h v88))] h nx := by kernel_rfl
theorem E29_ret (n : Nat) (call : CallF) (f : Nat → Option AV) (h : Heap) (nx : Nat) : E29 n call h nx .ret (.fn f) [] = retL [(bd (f 6) fun v88 => (ldA 7 h v88))] h nx := by kernel_rfl
theorem E29_pan (n : Nat) (call : CallF) (v : AV) (tm : TM) (h : Heap) (nx : Nat) : E29 n call h nx (.pan v) tm [] = some (.pan v h nx) := by kernel_rfl
end Go.Proofs.YtaajedkbaahgfaaGreatDoor

/-
Residual of function 30
-/
namespace Go.Proofs.YtaajedkbaahgfaaGreatDoor
open Go Go.AE
set_option maxRecDepth 100000
/-! (touchstone/eval.machine).let -/
noncomputable def C30 : Code := Tryz.f30.body.getD .skip
noncomputable def E30 (n : Nat) (call : CallF) : KX CRes := kEnd Tryz.prog true locOfF n call (mapL (rsVar Tryz.prog 6) Tryz.f30.results.toList)
noncomputable def R30_0 (n : Nat) (call : CallF) : TM → Defs → Heap → Nat → KX CRes → Option CRes := kCode (β := CRes) Tryz.prog 47 6 140737487830784 C30 n call
noncomputable def R30_1 (n : Nat) (call : CallF) : TM → Defs → Heap → Nat → KX CRes → Option CRes := kCode (β := CRes) Tryz.prog 47 6 140737487830784 (cL C30) n call
noncomputable def R30_2 (n : Nat) (call : CallF) : TM → Defs → Heap → Nat → KX CRes → Option CRes := kCode (β := CRes) Tryz.prog 47 6 140737487830784 (cR C30) n call
noncomputable def R30_3 (n : Nat) (call : CallF) : TM → Defs → Heap → Nat → KX CRes → Option CRes := kCode (β := CRes) Tryz.prog 47 6 140737487830784 (cL (cR C30)) n call
noncomputable def R30_4 (n : Nat) (call : CallF) : TM → Defs → Heap → Nat → KX CRes → Option CRes := kCode (β := CRes) Tryz.prog 47 6 140737487830784 (cR (cR C30)) n call
noncomputable def R30_5 (n : Nat) (call : CallF) : TM → Defs → Heap → Nat → KX CRes → Option CRes := kCode (β := CRes) Tryz.prog 47 6 140737487830784 (cL (cR (cR C30))) n call
noncomputable def R30_6 (n : Nat) (call : CallF) : TM → Defs → Heap → Nat → KX CRes → Option CRes := kCode (β := CRes) Tryz.prog 47 6 140737487830784 (cR (cR (cR C30))) n call
noncomputable def F30 (n : Nat) (call : CallF) (pb0 po0 : Nat) (pb1 po1 : Nat) (a2 : AV) (h : Heap) (nx : Nat) : Option CRes :=
  R30_0 n call (.fn (tmL tm0 [(2, a2), (1, (.ptr pb1 po1)), (0, (.ptr pb0 po0))])) [] h nx (E30 n call)
theorem F30_eq {sp : Specs} (hsp : sp 30 = none) (n : Nat) (call : CallF) (pb0 po0 : Nat) (pb1 po1 : Nat) (a2 : AV) (h : Heap) (nx : Nat) : callS Tryz.prog true sp locOfF n call 30 [(.ptr pb0 po0), (.ptr pb1 po1), a2] h nx = F30 n call pb0 po0 pb1 po1 a2 h nx :=
  (call_eq2 Tryz.func30 (c := C30) (N := 47) (dp := 6) (L := 140737487830784) (tm := (.fn (tmL tm0 [(2, a2), (1, (.ptr pb1 po1)), (0, (.ptr pb0 po0))]))) (by kernel_rfl) (by kernel_rfl) (by kernel_rfl) (by kernel_rfl) (by kernel_rfl) (by kernel_rfl) hsp n call h nx).trans (by kernel_rfl)
theorem R30_0_eq (n : Nat) (call : CallF) (f : Nat → Option AV) (df : Defs) (h : Heap) (nx : Nat) (K : KX CRes) : R30_0 n call (.fn f) df h nx K =
  R30_1 n call (.fn f) df h nx (kThen (R30_2 n call) K) :=
  (congrArg (fun c => kCode (β := CRes) Tryz.prog 47 6 140737487830784 c n call (.fn f) df h nx K) (show C30 = (.seq (cL C30) (cR C30)) by kernel_rfl)).trans (kCode_seq ..)
theorem R30_1_eq (n : Nat) (call : CallF) (f : Nat → Option AV) (df : Defs) (h : Heap) (nx : Nat) (K : KX CRes) : R30_1 n call (.fn f) df h nx K =
  letH (hset h nx (.cells [(.int .i64 0), (.str 0 0), (.str 0 0), (.int .i64 0), .nilslice, .nilptr, .nilptr])) (Nat.succ nx) fun h1 n2 =>
  K h1 n2 .normal (.fn (tmL f [(6, (.ptr nx 0))])) df := by kernel_rfl
theorem R30_2_eq (n : Nat) (call : CallF) (f : Nat → Option AV) (df : Defs) (h : Heap) (nx : Nat) (K : KX CRes) : R30_2 n call (.fn f) df h nx K =
  R30_3 n call (.fn f) df h nx (kThen (R30_4 n call) K) :=
  (congrArg (fun c => kCode (β := CRes) Tryz.prog 47 6 140737487830784 c n call (.fn f) df h nx K) (show (cR C30) = (.seq (cL (cR C30)) (cR (cR C30))) by kernel_rfl)).trans (kCode_seq ..)
theorem R30_3_eq (n : Nat) (call : CallF) (f : Nat → Option AV) (df : Defs) (h : Heap) (nx : Nat) (K : KX CRes) : R30_3 n call (.fn f) df h nx K =
  bd (f 1) fun v3 =>
  bd (rNilV v3) fun v4 =>
  bd (adr 2 v4) fun v5 =>
  bd (ld1 h v5) fun v6 =>
  bd (f 2) fun v7 =>
  bd (bld [(.str 0 0), (.int .i64 0), (.str 0 0), (.str 0 0), (.int .i64 0), .nilslice, .nilptr, .nilptr, .nilptr, .nilptr] [(0, 1, v6), (9, 1, v7)]) fun v8 =>
  bd (boxR nx v8) fun r9 =>
  letH (hset h nx r9.2) (Nat.succ nx) fun h10 n11 =>
  K h10 n11 .normal (.fn (tmL f [(7, r9.1)])) df := by kernel_rfl
theorem R30_4_eq (n : Nat) (call : CallF) (f : Nat → Option AV) (df : Defs) (h : Heap) (nx : Nat) (K : KX CRes) : R30_4 n call (.fn f) df h nx K =
  R30_5 n call (.fn f) df h nx (kThen (R30_6 n call) K) :=
  (congrArg (fun c => kCode (β := CRes) Tryz.prog 47 6 140737487830784 c n call (.fn f) df h nx K) (show (cR (cR C30)) = (.seq (cL (cR (cR C30))) (cR (cR (cR C30)))) by kernel_rfl)).trans (kCode_seq ..)
theorem R30_5_eq (n : Nat) (call : CallF) (f : Nat → Option AV) (df : Defs) (h : Heap) (nx : Nat) (K : KX CRes) : R30_5 n call (.fn f) df h nx K =
  bd (f 1) fun v12 =>
  bd (rNilV v12) fun v13 =>
  bd (adr 3 v13) fun v14 =>
  bd (ld1 h v14) fun v15 =>
  bd (binV .eql (eqT Tryz.prog 8 3) true (!(Tryz.prog.eqGuardType Tryz.prog.depth 3)) (.int .i64 1) v15) fun v16 =>
  onBool v16 fun b17 => sl b17
  (bd (f 7) fun v18 =>
  bd (f 1) fun v19 =>
  bd (rNilV v19) fun v20 =>
  bd (adr 4 v20) fun v21 =>
  bd (ld1 h v21) fun v22 =>
  bd (idx 5 v22 (.int .i64 0)) fun v23 =>
  bd (rNilV v18) fun v24 =>
  bd (adr 8 v24) fun v25 =>
  bd (stR 1 h nx v25 v23) (ares (fun v26 h27 n28 =>
  K h27 n28 .normal (.fn (tmL f [(19, v16)])) df) (fun v29 h30 n31 => K h30 n31 (.pan v29) (.fn (tmL f [(19, v16)])) df)))
  (bd (f 7) fun v32 =>
  bd (f 0) fun v33 =>
  bd (f 1) fun v34 =>
  bd (rNilV v34) fun v35 =>
  bd (adr 4 v35) fun v36 =>
  bd (ld1 h v36) fun v37 =>
  bd (idx 5 v37 (.int .i64 0)) fun v38 =>
  bd (f 2) fun v39 =>
  bd (clR call 15 [v33, v38, v39] h nx) (ares (fun v40 h41 n42 =>
  bd (rNilV v32) fun v43 =>
  bd (adr 1 v43) fun v44 =>
  bd (stR 7 h41 n42 v44 v40) (ares (fun v45 h46 n47 =>
  K h46 n47 .normal (.fn (tmL f [(19, v16)])) df) (fun v48 h49 n50 => K h49 n50 (.pan v48) (.fn (tmL f [(19, v16)])) df))) (fun v51 h52 n53 => K h52 n53 (.pan v51) (.fn (tmL f [(19, v16)])) df))) := by kernel_rfl
theorem R30_6_eq (n : Nat) (call : CallF) (f : Nat → Option AV) (df : Defs) (h : Heap) (nx : Nat) (K : KX CRes) : R30_6 n call (.fn f) df h nx K =
  bd (f 0) fun v54 =>
  bd (f 1) fun v55 =>
  bd (rNilV v55) fun v56 =>
  bd (adr 4 v56) fun v57 =>
  bd (ld1 h v57) fun v58 =>
  bd (idx 5 v58 (.int .i64 1)) fun v59 =>
  bd (f 7) fun v60 =>
  bd (clR call 15 [v54, v59, v60] h nx) (ares (fun v61 h62 n63 =>
  bd (bd (f 6) fun v64 => (stR 7 h62 n63 v64 v61)) (ares (fun v65 h66 n67 =>
  K h66 n67 .ret (.fn f) df) (fun v68 h69 n70 => K h69 n70 (.pan v68) (.fn f) df))) (fun v71 h72 n73 => K h72 n73 (.pan v71) (.fn f) df)) := by kernel_rfl
theorem E30_normal (n : Nat) (call : CallF) (f : Nat → Option AV) (h : Heap) (nx : Nat) : E30 n call h nx .normal (.fn f) [] = retL [(bd (f 6) fun v74 => (ldA 7 h v74))] h nx := by kernel_rfl
theorem E30_ret (n : Nat) (call : CallF) (f : Nat → Option AV) (h : Heap) (nx : Nat) : E30 n call h nx .ret (.fn f) [] = retL [(bd (f 6) fun v74 => (ldA 7 h v74))] h nx := by kernel_rfl
theorem E30_pan (n : Nat) (call : CallF) (v : AV) (tm : TM) (h : Heap) (nx : Nat) : E30 n call h nx (.pan v) tm [] = some (.pan v h nx) := by kernel_rfl
end Go.Proofs.YtaajedkbaahgfaaGreatDoor

/-
Residual of function 31
-/
namespace Go.Proofs.YtaajedkbaahgfaaGreatDoor
open Go Go.AE
set_option maxRecDepth 100000
/-! (touchstone/eval.machine).match -/
noncomputable def C31 : Code := Tryz.f31.body.getD .skip
noncomputable def E31 (n : Nat) (call : CallF) : KX CRes := kEnd Tryz.prog true locOfF n call (mapL (rsVar Tryz.prog 6) Tryz.f31.results.toList)
noncomputable def R31_0 (n : Nat) (call : CallF) : TM → Defs → Heap → Nat → KX CRes → Option CRes := kCode (β := CRes) Tryz.prog 53 6 9005000164374528 C31 n call
noncomputable def R31_1 (n : Nat) (call : CallF) : TM → Defs → Heap → Nat → KX CRes → Option CRes := kCode (β := CRes) Tryz.prog 53 6 9005000164374528 (cL C31) n call
noncomputable def R31_2 (n : Nat) (call : CallF) : TM → Defs → Heap → Nat → KX CRes → Option CRes := kCode (β := CRes) Tryz.prog 53 6 9005000164374528 (cR C31) n call
noncomputable def R31_3 (n : Nat) (call : CallF) : TM → Defs → Heap → Nat → KX CRes → Option CRes := kCode (β := CRes) Tryz.prog 53 6 9005000164374528 (cL (cR C31)) n call
noncomputable def R31_4 (n : Nat) (call : CallF) : TM → Defs → Heap → Nat → KX CRes → Option CRes := kCode (β := CRes) Tryz.prog 53 6 9005000164374528 (cR (cR C31)) n call
noncomputable def R31_5 (n : Nat) (call : CallF) : TM → Defs → Heap → Nat → KX CRes → Option CRes := kCode (β := CRes) Tryz.prog 53 6 9005000164374528 (cL (cR (cR C31))) n call
noncomputable def R31_6 (n : Nat) (call : CallF) : TM → Defs → Heap → Nat → KX CRes → Option CRes := kCode (β := CRes) Tryz.prog 53 6 9005000164374528 (cR (cR (cR C31))) n call
noncomputable def R31_7 (n : Nat) (call : CallF) : TM → Defs → Heap → Nat → KX CRes → Option CRes := kCode (β := CRes) Tryz.prog 53 6 9005000164374528 (cL (cL (cR (cR C31)))) n call
noncomputable def R31_8 (n : Nat) (call : CallF) : TM → Defs → Heap → Nat → KX CRes → Option CRes := kCode (β := CRes) Tryz.prog 53 6 9005000164374528 (cR (cL (cR (cR C31)))) n call
noncomputable def R31_9 (n : Nat) (call : CallF) : TM → Defs → Heap → Nat → KX CRes → Option CRes := kCode (β := CRes) Tryz.prog 53 6 9005000164374528 (cL (cR (cL (cR (cR C31))))) n call
noncomputable def R31_10 (n : Nat) (call : CallF) : TM → Defs → Heap → Nat → KX CRes → Option CRes := kCode (β := CRes) Tryz.prog 53 6 9005000164374528 (cL (cL (cR (cL (cR (cR C31)))))) n call
noncomputable def F31 (n : Nat) (call : CallF) (pb0 po0 : Nat) (pb1 po1 : Nat) (a2 : AV) (h : Heap) (nx : Nat) : Option CRes :=
  R31_0 n call (.fn (tmL tm0 [(2, a2), (1, (.ptr pb1 po1)), (0, (.ptr pb0 po0))])) [] h nx (E31 n call)
theorem F31_eq {sp : Specs} (hsp : sp 31 = none) (n : Nat) (call : CallF) (pb0 po0 : Nat) (pb1 po1 : Nat) (a2 : AV) (h : Heap) (nx : Nat) : callS Tryz.prog true sp locOfF n call 31 [(.ptr pb0 po0), (.ptr pb1 po1), a2] h nx = F31 n call pb0 po0 pb1 po1 a2 h nx :=
  (call_eq2 Tryz.func31 (c := C31) (N := 53) (dp := 6) (L := 9005000164374528) (tm := (.fn (tmL tm0 [(2, a2), (1, (.ptr pb1 po1)), (0, (.ptr pb0 po0))]))) (by kernel_rfl) (by kernel_rfl) (by kernel_rfl) (by kernel_rfl) (by kernel_rfl) (by kernel_rfl) hsp n call h nx).trans (by kernel_rfl)
theorem R31_0_eq (n : Nat) (call : CallF) (f : Nat → Option AV) (df : Defs) (h : Heap) (nx : Nat) (K : KX CRes) : R31_0 n call (.fn f) df h nx K =
  R31_1 n call (.fn f) df h nx (kThen (R31_2 n call) K) :=
  (congrArg (fun c => kCode (β := CRes) Tryz.prog 53 6 9005000164374528 c n call (.fn f) df h nx K) (show C31 = (.seq (cL C31) (cR C31)) by kernel_rfl)).trans (kCode_seq ..)
theorem R31_1_eq (n : Nat) (call : CallF) (f : Nat → Option AV) (df : Defs) (h : Heap) (nx : Nat) (K : KX CRes) : R31_1 n call (.fn f) df h nx K =
  letH (hset h nx (.cells [(.int .i64 0), (.str 0 0), (.str 0 0), (.int .i64 0), .nilslice, .nilptr, .nilptr])) (Nat.succ nx) fun h1 n2 =>
  K h1 n2 .normal (.fn (tmL f [(6, (.ptr nx 0))])) df := by kernel_rfl
theorem R31_2_eq (n : Nat) (call : CallF) (f : Nat → Option AV) (df : Defs) (h : Heap) (nx : Nat) (K : KX CRes) : R31_2 n call (.fn f) df h nx K =
  R31_3 n call (.fn f) df h nx (kThen (R31_4 n call) K) :=
  (congrArg (fun c => kCode (β := CRes) Tryz.prog 53 6 9005000164374528 c n call (.fn f) df h nx K) (show (cR C31) = (.seq (cL (cR C31)) (cR (cR C31))) by kernel_rfl)).trans (kCode_seq ..)
theorem R31_3_eq (n : Nat) (call : CallF) (f : Nat → Option AV) (df : Defs) (h : Heap) (nx : Nat) (K : KX CRes) : R31_3 n call (.fn f) df h nx K =
  bd (f 0) fun v3 =>
  bd (f 1) fun v4 =>
  bd (rNilV v4) fun v5 =>
  bd (adr 4 v5) fun v6 =>
  bd (ld1 h v6) fun v7 =>
  bd (idx 5 v7 (.int .i64 0)) fun v8 =>
  bd (f 2) fun v9 =>
  bd (clR call 15 [v3, v8, v9] h nx) (ares (fun v10 h11 n12 =>
  letH (hset h11 n12 (.cells [(.int .i64 0), (.str 0 0), (.str 0 0), (.int .i64 0), .nilslice, .nilptr, .nilptr])) (Nat.succ n12) fun h13 n14 =>
  bd (stR 7 h13 n14 (.ptr n12 0) v10) (ares (fun v15 h16 n17 =>
  K h16 n17 .normal (.fn (tmL f [(7, (.ptr n12 0))])) df) (fun v18 h19 n20 => K h19 n20 (.pan v18) (.fn (tmL f [(7, (.ptr n12 0))])) df))) (fun v21 h22 n23 => K h22 n23 (.pan v21) (.fn f) df)) := by kernel_rfl
theorem R31_4_eq (n : Nat) (call : CallF) (f : Nat → Option AV) (df : Defs) (h : Heap) (nx : Nat) (K : KX CRes) : R31_4 n call (.fn f) df h nx K =
  R31_5 n call (.fn f) df h nx (kThen (R31_6 n call) K) :=
  (congrArg (fun c => kCode (β := CRes) Tryz.prog 53 6 9005000164374528 c n call (.fn f) df h nx K) (show (cR (cR C31)) = (.seq (cL (cR (cR C31))) (cR (cR (cR C31)))) by kernel_rfl)).trans (kCode_seq ..)
theorem R31_5_eq (n : Nat) (call : CallF) (f : Nat → Option AV) (df : Defs) (h : Heap) (nx : Nat) (K : KX CRes) : R31_5 n call (.fn f) df h nx K =
  R31_7 n call (.fn f) df h nx (kThen (R31_8 n call) K) :=
  (congrArg (fun c => kCode (β := CRes) Tryz.prog 53 6 9005000164374528 c n call (.fn f) df h nx K) (show (cL (cR (cR C31))) = (.seq (cL (cL (cR (cR C31)))) (cR (cL (cR (cR C31))))) by kernel_rfl)).trans (kCode_seq ..)
theorem R31_6_eq (n : Nat) (call : CallF) (f : Nat → Option AV) (df : Defs) (h : Heap) (nx : Nat) (K : KX CRes) : R31_6 n call (.fn f) df h nx K =
  bd (clR call 26 [] h nx) (ares (fun v24 h25 n26 =>
  bd (bd (f 6) fun v27 => (stR 7 h25 n26 v27 v24)) (ares (fun v28 h29 n30 =>
  K h29 n30 .ret (.fn f) df) (fun v31 h32 n33 => K h32 n33 (.pan v31) (.fn f) df))) (fun v34 h35 n36 => K h35 n36 (.pan v34) (.fn f) df)) := by kernel_rfl
theorem R31_7_eq (n : Nat) (call : CallF) (f : Nat → Option AV) (df : Defs) (h : Heap) (nx : Nat) (K : KX CRes) : R31_7 n call (.fn f) df h nx K =
  K h nx .normal (.fn (tmL f [(8, (.int .i64 1))])) df := by kernel_rfl
theorem R31_8_eq (n : Nat) (call : CallF) (f : Nat → Option AV) (df : Defs) (h : Heap) (nx : Nat) (K : KX CRes) : R31_8 n call (.fn f) df h nx K =
  R31_9 n call (.fn f) df h nx (kLeave 0 K) :=
  (congrArg (fun c => kCode (β := CRes) Tryz.prog 53 6 9005000164374528 c n call (.fn f) df h nx K) (show (cR (cL (cR (cR C31)))) = (.block 0 (cL (cR (cL (cR (cR C31)))))) by kernel_rfl)).trans (kCode_block ..)
theorem R31_9_eq (n : Nat) (call : CallF) (f : Nat → Option AV) (df : Defs) (h : Heap) (nx : Nat) (K : KX CRes) : R31_9 n call (.fn f) df h nx K =
  kLoop (R31_10 n call) n (.fn f) df h nx K :=
  (congrArg (fun c => kCode (β := CRes) Tryz.prog 53 6 9005000164374528 c n call (.fn f) df h nx K) (show (cL (cR (cL (cR (cR C31))))) = (.loop (cL (cL (cR (cL (cR (cR C31))))))) by kernel_rfl)).trans (kCode_loop ..)
theorem R31_10_eq (n : Nat) (call : CallF) (f : Nat → Option AV) (df : Defs) (h : Heap) (nx : Nat) (K : KX CRes) : R31_10 n call (.fn f) df h nx K =
  bd (f 8) fun v37 =>
  bd (binV .add (eqT Tryz.prog 8 3) true (!(Tryz.prog.eqGuardType Tryz.prog.depth 3)) (.int .i64 1) v37) fun v38 =>
  bd (f 1) fun v39 =>
  bd (rNilV v39) fun v40 =>
  bd (adr 4 v40) fun v41 =>
  bd (ld1 h v41) fun v42 =>
  bd (lenSl v42) fun v43 =>
  bd (binV .lss (eqT Tryz.prog 8 3) false (!(Tryz.prog.eqGuardType Tryz.prog.depth 3)) v43 v38) fun v44 =>
  onBool v44 fun b45 => sl b45
  (bd (bd ((f 1)) fun v46 => some v46) fun v47 =>
  bd (bd ((rNilV v47)) fun v48 => some v48) fun v49 =>
  bd (bd ((adr 4 v49)) fun v50 => some v50) fun v51 =>
  bd (bd ((ld1 h v51)) fun v52 => some v52) fun v53 =>
  bd (bd ((f 8)) fun v54 => some v54) fun v55 =>
  bd (bd ((idx 5 v53 v55)) fun v56 => some v56) fun v57 =>
  bd (bd ((bd (f 7) fun v58 => (ldA 7 h v58))) fun v59 => some v59) fun v60 =>
  bd (bd ((f 2)) fun v61 => some v61) fun v62 =>
  bd (clR call 55 [v57, v60, v62] h (nx + 14)) (ares (fun v63 h64 n65 =>
  bd (bd ((extV v63 0)) fun v66 => some v66) fun v67 =>
  bd (bd ((extV v63 1)) fun v68 => some v68) fun v69 =>
  onBool v69 fun b70 => sl b70
  (bd (f 0) fun v71 =>
  bd (f 1) fun v72 =>
  bd (rNilV v72) fun v73 =>
  bd (adr 4 v73) fun v74 =>
  bd (ld1 h64 v74) fun v75 =>
  bd (f 8) fun v76 =>
  bd (binV .add (eqT Tryz.prog 8 3) true (!(Tryz.prog.eqGuardType Tryz.prog.depth 3)) (.int .i64 1) v76) fun v77 =>
  bd (idx 5 v75 v77) fun v78 =>
  bd (clR call 15 [v71, v78, v67] h64 n65) (ares (fun v79 h80 n81 =>
  bd (bd (f 6) fun v82 => (stR 7 h80 n81 v82 v79)) (ares (fun v83 h84 n85 =>
  K h84 n85 .ret (.fn (tmL f [(41, v69), (10, v69), (9, v67), (26, v44)])) df) (fun v86 h87 n88 => K h87 n88 (.pan v86) (.fn (tmL f [(41, v69), (10, v69), (9, v67), (26, v44)])) df))) (fun v89 h90 n91 => K h90 n91 (.pan v89) (.fn (tmL f [(41, v69), (10, v69), (9, v67), (26, v44)])) df)))
  (bd (f 8) fun v92 =>
  bd (binV .add (eqT Tryz.prog 8 3) true (!(Tryz.prog.eqGuardType Tryz.prog.depth 3)) (.int .i64 2) v92) fun v93 =>
  K h64 n65 .normal (.fn (tmL f [(8, v93), (41, v69), (10, v69), (9, v67), (26, v44)])) df)) (fun v94 h95 n96 => K h95 n96 (.pan v94) (.tr .nil) df)))
  (K h nx (.exit 0) (.fn (tmL f [(26, v44)])) df) := by kernel_rfl
theorem E31_normal (n : Nat) (call : CallF) (f : Nat → Option AV) (h : Heap) (nx : Nat) : E31 n call h nx .normal (.fn f) [] = retL [(bd (f 6) fun v97 => (ldA 7 h v97))] h nx := by kernel_rfl
theorem E31_ret (n : Nat) (call : CallF) (f : Nat → Option AV) (h : Heap) (nx : Nat) : E31 n call h nx .ret (.fn f) [] = retL [(bd (f 6) fun v97 => (ldA 7 h v97))] h nx := by kernel_rfl
theorem E31_pan (n : Nat) (call : CallF) (v : AV) (tm : TM) (h : Heap) (nx : Nat) : E31 n call h nx (.pan v) tm [] = some (.pan v h nx) := by kernel_rfl
end Go.Proofs.YtaajedkbaahgfaaGreatDoor

/-
What the functions of the law answer: apply, let, match.
-/
namespace Go.Proofs.YtaajedkbaahgfaaGreatDoor
open Go Go.AE Go.EV
set_option maxRecDepth 100000
set_option maxHeartbeats 1000000
theorem sp29 : spL 29 = none := rfl
theorem sp30 : spL 30 = none := rfl
theorem sp31 : spL 31 = none := rfl
abbrev zc : List AV := [.int .i64 0, .str 0 0, .str 0 0, .int .i64 0, .nilslice, .nilptr, .nilptr]
theorem St.none {M : Mc} {h : Heap} {nx left : Nat} {σ : Sto} (s : St M h nx σ left) {k : Nat} (hk : nx ≤ k) : σ k = none := by
  cases hq : σ k with
  | none => rfl
  | some y => have := s.mem.dom _ _ hq; omega
theorem rdv_one7 {σ : Sto} {v : Vl} {cs : List AV} (hv : RdV σ v cs) : cs.length = 7 ∧ allOne cs = true := ⟨rdv_len hv, rdv_one hv⟩
/-- cells of a value, put into a block of zeros -/
theorem zput {h : Heap} {id : Nat} {cs l0 : List AV} (hl : cs.length = 7) (hone : allOne cs = true) (hlo : h.lo ≤ id) (hl0 : l0.length = 7) :
    putCells (hset h id (.cells l0)) id 0 7 cs = some (hset (hset h id (.cells l0)) id (.cells cs)) := by
  have hs : lsplice 0 cs l0 = some cs := by
    match cs, hl with
    | [_, _, _, _, _, _, _], _ => match l0, hl0 with
      | [_, _, _, _, _, _, _], _ => rfl
  exact putCells_ok' hl hone (hro_high (by rw [hset_lo]; exact hlo)) (by rw [hget_set, if_pos rfl]) hs
theorem frame_bld {σ τ : Sto} {v : Vl} {l : List AV} {env : List Fr} {e : AV} (s : Str) (hv : RdV σ v l) (he : RdE τ env e) :
    bld [.str 0 0, .int .i64 0, .str 0 0, .str 0 0, .int .i64 0, .nilslice, .nilptr, .nilptr, .nilptr, .nilptr] [(0, 1, .str s.1 s.2), (1, 7, .agg l), (9, 1, e)] = some (.agg (.str s.1 s.2 :: (l ++ [.nilptr, e]))) := by
  obtain ⟨ks, cv, ev, hl, _⟩ := rdv_inv hv
  rw [hl]
  cases he <;> rfl
theorem frame_box (id : Nat) (s : Str) (l : List AV) : boxR id (.agg (.str s.1 s.2 :: l)) = some (.ptr id 0, .cells (.str s.1 s.2 :: l)) := rfl
/-- a block of zeros, filled with a value and spoken of -/
theorem St.zfill {M : Mc} {h h0 : Heap} {nx nx0 left : Nat} {σ σ0 : Sto} {cs : List AV} (s : St M h nx σ left) (L : Later h0 nx0 M.mb σ0 h nx σ) :
    St M (hset (hset h nx (.cells zc)) nx (.cells cs)) (nx + 1) (sput σ nx (.cells cs)) left ∧ Later h0 nx0 M.mb σ0 (hset (hset h nx (.cells zc)) nx (.cells cs)) (nx + 1) (sput σ nx (.cells cs)) := by
  have hml := s.mem.mlt
  have hle := L.le
  have hs := s.none (Nat.le_refl nx)
  have s1 := s.alloc (id := nx) (nx' := nx + 1) (.cells zc) (Nat.le_refl _) (Nat.lt_succ_self _)
  have L1 := L.trans (s.mem.alloc (id := nx) (nx' := nx + 1) (x := .cells zc) (Nat.le_refl _) (Nat.lt_succ_self _))
  have hg : hget (hset (hset h nx (.cells zc)) nx (.cells cs)) nx = some (.cells cs) := by rw [hget_set, if_pos rfl]
  exact ⟨s1.put _ hs (Nat.lt_succ_self _) (by omega), (L1.write (.cells cs) hle hs).speak hg hle (Nat.lt_succ_self _) hs (by omega)⟩
theorem Fin.bind2 {M : Mc} {h : Heap} {nx : Nat} {σ : Sto} {h0 : Heap} {nx0 : Nat} {σ0 : Sto} {g : FuncId} {l : List AV} {r : Res} {k : Vl → Nat → Res} {kv kp : Nat → Nat → AV → Heap → Nat → Option CRes}
    (L : Later h0 nx0 M.mb σ0 h nx σ) (hf : Fin M h nx σ (fun n d => CN n d g l h nx) r) (hp : ∀ n d v h nx, kp n d v h nx = some (.pan v h nx))
    (hk : ∀ v lf h' nx' σ' cs, r = .ok v lf → Later h nx M.mb σ h' nx' σ' → St M h' nx' σ' lf → RdV σ' v cs → Fin M h0 nx0 σ0 (fun n d => kv n d (.agg cs) h' nx') (k v lf)) :
    Fin M h0 nx0 σ0 (fun n d => bd (clR (CN n d) g l h nx) (ares (kv n d) (kp n d))) (rthen r k) := by
  have : (fun n d => kp n d) = fun (_ _ : Nat) (v : AV) (h : Heap) (n : Nat) => some (CRes.pan v h n) := by
    funext n d v h nx; exact hp n d v h nx
  have e : kp = fun (_ _ : Nat) (v : AV) (h : Heap) (n : Nat) => some (CRes.pan v h n) := this
  rw [e]
  exact Fin.bind L hf hk
/-- the last call of a function whose code ends behind it -/
theorem Fin.last {M : Mc} {h : Heap} {nx : Nat} {σ : Sto} {h0 : Heap} {nx0 : Nat} {σ0 : Sto} {g : FuncId} {l : List AV} {r : Res} {id : Nat} {l0 : List AV} {kv kp : Nat → Nat → AV → Heap → Nat → Option CRes} (L : Later h0 nx0 M.mb σ0 h nx σ) (hid : nx0 ≤ id) (hn : id < nx) (hs : σ id = none) (hg : hget h id = some (.cells l0)) (hl0 : l0.length = 7)
    (hm : Mem h0 nx0 M.mb σ0) (hf : Fin M h nx σ (fun n d => CN n d g l h nx) r) (hp : ∀ n d v h nx, kp n d v h nx = some (.pan v h nx))
    (hk : ∀ n d cs h' nx', cs.length = 7 → putCells h' id 0 7 cs = some (hset h' id (.cells cs)) → (pkAgg 7).run cs 0 = some (.agg cs) → kv n d (.agg cs) h' nx' = some (.ret (.agg cs) (hset h' id (.cells cs)) nx')) :
    Fin M h0 nx0 σ0 (fun n d => bd (clR (CN n d) g l h nx) (ares (kv n d) (kp n d))) r := by
  have e : r = rthen r (fun v l => .ok v l) := by cases r <;> rfl
  rw [e]
  refine Fin.bind2 (k := fun v l => .ok v l) L hf hp fun v lf h' nx' σ' cs _ L1 s1 hv => ?_
  have hml := hm.mlt
  have hlo := hm.lo
  have hg' : hget h' id = some (.cells l0) := (L1.old id hn (by omega)).trans hg
  have hs' : σ' id = none := (L1.sold id hn).trans hs
  have hput : putCells h' id 0 7 cs = some (hset h' id (.cells cs)) := by
    have h2 : lsplice 0 cs l0 = some cs := by
      match cs, rdv_len hv with
      | [_, _, _, _, _, _, _], _ => match l0, hl0 with
        | [_, _, _, _, _, _, _], _ => rfl
    exact putCells_ok' (rdv_len hv) (rdv_one hv) (hro_high (by rw [L1.lo, L.lo]; omega)) hg' h2
  refine ⟨hset h' id (.cells cs), nx', σ', cs, (L.trans L1).write _ hid hs', s1.write _ hs' (by omega), Ev.pure fun n d => hk n d cs h' nx' (rdv_len hv) hput (pkAgg_run (by rw [List.drop_zero, List.take_of_length_le (by rw [rdv_len hv]; omega)]) (rdv_len hv)), hv⟩
theorem zero_rd (σ : Sto) : RdV σ Vl.zero zc := .mk 0 (0, 0) (0, 0) 0 [] none [] .nilslice .nilptr .nilptr .nil .none .nil (by intro t ht; cases ht)
section
variable {M : Mc} {fuel : Nat} (hev : EvOk M fuel)
include hev
theorem apply_ok {left : Nat} (hle : left ≤ fuel) {t t0 t1 : Tm} {r : List Tm} (htk : t.kids = t0 :: t1 :: r) {env : List Fr} {h : Heap} {nx : Nat} {σ : Sto} {b o : Nat} {e : AV} (s : St M h nx σ left) (hp : RdP σ t b o) (he : RdE σ env e) :
    Fin M h nx σ (fun n d => CN n d 29 [.ptr M.mb 0, .ptr b o, e] h nx) (appF (evalF M.lets fuel) left t0 t1 env) := by
  have hz := s.mem.alloc (id := nx) (nx' := nx + 1) (x := .cells zc) (Nat.le_refl _) (Nat.lt_succ_self _)
  have s1 := s.alloc (id := nx) (nx' := nx + 1) (.cells zc) (Nat.le_refl _) (Nat.lt_succ_self _)
  have hml := s.mem.mlt
  have hlo0 := s.mem.lo
  obtain ⟨cs, ks, ht⟩ := rdp_at s1.mem hp
  have hgn : hget (hset h nx (.cells zc)) nx = some (.cells zc) := by rw [hget_set, if_pos rfl]
  obtain ⟨pb, po, cap, hkse, hp0, hblt0, _⟩ := rdks_at ht.kids (i := 0) htk
  refine Fin.map (g := fun n d => F29 n (CN n d) M.mb 0 b o e h nx) (fun c hc => Rn.of (f := 29) (l := [.ptr M.mb 0, .ptr b o, e]) (g := fun n d => F29 n (CN n d) M.mb 0 b o e h nx) (fun n d => F29_eq sp29 n (CN n d) M.mb 0 b o e h nx) hc) ?_
  unfold F29
  have i0 : idx 5 ks (.int .i64 0) = some (.ptr pb (po + 0 * 5)) := by rw [hkse]; exact (r_idx 5 pb po _ 5 cap .i64 0).trans (by rw [hblt0]; rfl)
  repeat (first | simp -eta only [SY, ↓reduceIte, Nat.reduceEqDiff, Nat.reduceAdd, r_loadB _ _ ht.get, ht.c4, i0] | simp -eta only [KY, ↓reduceIte, Nat.reduceEqDiff])
  show Fin M h nx σ _ (rthen (evalF M.lets fuel left t0 env) fun f l => rthen (evalF M.lets fuel l t1 env) fun a l => match f.code with | none => .err 8 l | some c => match c.kids with | [] => .err 8 l | b :: _ => evalF M.lets fuel l b (Fr.mk c.name a none :: f.env))
  refine Fin.bind hz (hev left hle t0 env _ _ _ pb (po + 0 * 5) e s1 hp0 he) fun fv l2 h2 n2 σ2 fcs hr2 L2 s2 hfv => ?_
  have hl2 := evalF_lt M.lets hr2
  obtain ⟨s3, L3⟩ := s2.zfill (cs := fcs) L2
  have hz2 := zput (h := h2) (id := n2) (l0 := zc) (rdv_len hfv) (rdv_one hfv) s2.mem.lo rfl
  obtain ⟨cs3, ks3, ht3⟩ := rdp_at s3.mem (hp.mono L3.sle)
  obtain ⟨pb3, po3, cap3, hkse3, hp1, hblt1, _⟩ := rdks_at ht3.kids (i := 1) (show t.kids.drop 1 = t1 :: r by rw [htk]; rfl)
  have i1 : idx 5 ks3 (.int .i64 1) = some (.ptr pb3 (po3 + 1 * 5)) := by rw [hkse3]; exact (r_idx 5 pb3 po3 _ 5 cap3 .i64 1).trans (by rw [hblt1]; rfl)
  repeat (first | simp -eta only [SY, ↓reduceIte, Nat.reduceEqDiff, Nat.reduceAdd, hz2, r_loadB _ _ ht3.get, ht3.c4, i1] | simp -eta only [KY, ↓reduceIte, Nat.reduceEqDiff])
  refine Fin.bind (hz.trans L3) (hev l2 (by omega) t1 env _ _ _ pb3 (po3 + 1 * 5) e s3 hp1 (he.mono L3.sle)) fun av l4 h4 n4 σ4 acs hr4 L4 s4 hav => ?_
  have hl4 := evalF_lt M.lets hr4
  have hle4 := L4.le
  obtain ⟨s5, L5⟩ := s4.zfill (cs := acs) (L3.trans L4)
  have L45 := s4.zfill (cs := acs) (Later.refl s4.mem)
  have hz4 := zput (h := h4) (id := n4) (l0 := zc) (rdv_len hav) (rdv_one hav) s4.mem.lo rfl
  have hga : hget (hset (hset h4 n4 (.cells zc)) n4 (.cells acs)) n4 = some (.cells acs) := by rw [hget_set, if_pos rfl]
  have hgf : hget (hset (hset h4 n4 (.cells zc)) n4 (.cells acs)) n2 = some (.cells fcs) := by
    have h1 : σ4 n2 = some (.cells fcs) := L4.sle _ _ (sput_self _ _ _)
    exact s5.mem.sat n2 _ (sput_le (s4.none (Nat.le_refl _)) _ _ h1)
  have hgn5 : hget (hset (hset h4 n4 (.cells zc)) n4 (.cells acs)) nx = some (.cells zc) := (L5.old nx (Nat.lt_succ_self _) (by omega)).trans hgn
  have hsn5 := (L5.sold nx (Nat.lt_succ_self _)).trans (s.none (Nat.le_refl nx))
  have hle5 := L5.le
  obtain ⟨vks, cv, ev, hfl, hvk, hvc, hve, hne⟩ := rdv_inv hfv
  have f5 : fcs[5]? = some cv := by rw [hfl]; rfl
  have f6 : fcs[6]? = some ev := by rw [hfl]; rfl
  have L35 : Sto.le σ2 (sput σ4 n4 (.cells acs)) := fun x y hxy => L45.2.sle _ _ (L4.sle _ _ (sput_le (s2.none (Nat.le_refl _)) _ _ hxy))
  cases hco : fv.code with
  | none =>
    rw [hco] at hvc
    cases hvc
    repeat (first | simp -eta only [SY, ↓reduceIte, Nat.reduceEqDiff, Nat.reduceAdd, hz4, r_loadB _ _ hgf, f5, eq52] | simp -eta only [KY, ↓reduceIte, Nat.reduceEqDiff])
    exact Fin.tail (hz.trans L5) (Nat.le_refl _) (by omega) hsn5 hgn5 rfl s.mem (stuck_fin s5)
  | some c =>
    rw [hco] at hvc
    cases hvc with
    | some _ cb co hcp =>
    obtain ⟨c0, cr, hck⟩ : ∃ c0 cr, c.kids = c0 :: cr := by
      cases hq : c.kids with
      | nil => exact absurd hq (hne c hco)
      | cons a l => exact ⟨a, l, rfl⟩
    obtain ⟨cs5, ks5, ht5⟩ := rdp_at s5.mem (hcp.mono L35)
    obtain ⟨pb5, po5, cap5, hkse5, hp5, hblt5, _⟩ := rdks_at ht5.kids (i := 0) hck
    have i5 : idx 5 ks5 (.int .i64 0) = some (.ptr pb5 (po5 + 0 * 5)) := by rw [hkse5]; exact (r_idx 5 pb5 po5 _ 5 cap5 .i64 0).trans (by rw [hblt5]; rfl)
    have hal : (pkAgg 7).run acs 0 = some (.agg acs) := pkAgg_run (by rw [List.drop_zero, List.take_of_length_le (by rw [rdv_len hav]; omega)]) (rdv_len hav)
    have hbld := frame_bld c.name hav hve
    have hbox := frame_box (n4 + 1 + 16) c.name (acs ++ [.nilptr, ev])
    have s6 := s5.make (id := n4 + 1 + 16) (nx' := n4 + 1 + 19) (.cells (.str c.name.1 c.name.2 :: (acs ++ [.nilptr, ev]))) (by omega) (by omega)
    have M6 := s5.mem.make (id := n4 + 1 + 16) (nx' := n4 + 1 + 19) (.cells (.str c.name.1 c.name.2 :: (acs ++ [.nilptr, ev]))) (by omega) (by omega)
    have L6 := L5.trans M6
    have hfr : RdE _ (Fr.mk c.name av none :: fv.env) (.ptr (n4 + 1 + 16) 0) := .cons c.name av none fv.env (n4 + 1 + 16) acs .nilptr ev (sput_self _ _ _) ((hav.mono L45.2.sle).mono M6.sle) .none ((hve.mono L35).mono M6.sle)
    have hfin := Fin.tail (l0 := zc) (hz.trans L6) (Nat.le_refl _) (by omega) ((L6.sold nx (Nat.lt_succ_self _)).trans (s.none (Nat.le_refl nx))) ((L6.old nx (Nat.lt_succ_self _) (by omega)).trans hgn) rfl s.mem (hev l4 (by omega) c0 _ _ _ _ pb5 (po5 + 0 * 5) _ s6 (hp5.mono M6.sle) hfr)
    simp only [hck]
    repeat (first | simp -eta only [SY, ↓reduceIte, Nat.reduceEqDiff, Nat.reduceAdd, hz4, r_loadB _ _ hgf, f5, f6, eq52, r_loadB _ _ ht5.get, ht5.c4, ht5.c2, i5, r_loadB _ _ hga, hal, hbld, hbox] | simp -eta only [KY, ↓reduceIte, Nat.reduceEqDiff])
    exact hfin
theorem let_ok {left : Nat} (hle : left ≤ fuel) {t t0 t1 : Tm} {r : List Tm} (htk : t.kids = t0 :: t1 :: r) {env : List Fr} {h : Heap} {nx : Nat} {σ : Sto} {b o : Nat} {e : AV} (s : St M h nx σ left) (hp : RdP σ t b o) (he : RdE σ env e) :
    Fin M h nx σ (fun n d => CN n d 30 [.ptr M.mb 0, .ptr b o, e] h nx) (letF (evalF M.lets fuel) left t t0 t1 env) := by
  have hml := s.mem.mlt
  have hlo0 := s.mem.lo
  have hs0 := s.none (Nat.le_refl nx)
  have hz := s.mem.alloc (id := nx) (nx' := nx + 1) (x := .cells zc) (Nat.le_refl _) (Nat.lt_succ_self _)
  have s1 := s.alloc (id := nx) (nx' := nx + 1) (.cells zc) (Nat.le_refl _) (Nat.lt_succ_self _)
  obtain ⟨cs1, ks1, ht1⟩ := rdp_at s1.mem hp
  have hbld0 : bld [.str 0 0, .int .i64 0, .str 0 0, .str 0 0, .int .i64 0, .nilslice, .nilptr, .nilptr, .nilptr, .nilptr] [(0, 1, .str t.name.1 t.name.2), (9, 1, e)] = some (.agg (.str t.name.1 t.name.2 :: (zc ++ [.nilptr, e]))) := by
    cases he <;> rfl
  have hbox0 := frame_box (nx + 1) t.name (zc ++ [.nilptr, e])
  have s2 := s1.alloc (id := nx + 1) (nx' := nx + 1 + 1) (.cells (.str t.name.1 t.name.2 :: (zc ++ [.nilptr, e]))) (Nat.le_refl _) (Nat.lt_succ_self _)
  have L2 := hz.trans (s1.mem.alloc (id := nx + 1) (nx' := nx + 1 + 1) (x := .cells (.str t.name.1 t.name.2 :: (zc ++ [.nilptr, e]))) (Nat.le_refl _) (Nat.lt_succ_self _))
  obtain ⟨cs, ks, ht⟩ := rdp_at s2.mem hp
  obtain ⟨pb, po, cap, hkse, hp0, hblt0, _⟩ := rdks_at ht.kids (i := 0) htk
  have i0 : idx 5 ks (.int .i64 0) = some (.ptr pb (po + 0 * 5)) := by rw [hkse]; exact (r_idx 5 pb po _ 5 cap .i64 0).trans (by rw [hblt0]; rfl)
  have hgn2 : hget (hset (hset h nx (.cells zc)) (nx + 1) (.cells (.str t.name.1 t.name.2 :: (zc ++ [.nilptr, e])))) nx = some (.cells zc) := by rw [hget_set, if_neg (by omega), hget_set, if_pos rfl]
  have hgf2 : hget (hset (hset h nx (.cells zc)) (nx + 1) (.cells (.str t.name.1 t.name.2 :: (zc ++ [.nilptr, e])))) (nx + 1) = some (.cells (.str t.name.1 t.name.2 :: (zc ++ [.nilptr, e]))) := by rw [hget_set, if_pos rfl]
  refine Fin.map (g := fun n d => F30 n (CN n d) M.mb 0 b o e h nx) (fun c hc => Rn.of (f := 30) (l := [.ptr M.mb 0, .ptr b o, e]) (g := fun n d => F30 n (CN n d) M.mb 0 b o e h nx) (fun n d => F30_eq sp30 n (CN n d) M.mb 0 b o e h nx) hc) ?_
  unfold F30 letF
  by_cases hn : t.n = 1
  · rw [if_pos hn]
    have en : eqI t.n 1 = true := by rw [hn]; exact eqI_refl _
    have hput : putCells (hset (hset h nx (.cells zc)) (nx + 1) (.cells (.str t.name.1 t.name.2 :: (zc ++ [.nilptr, e])))) (nx + 1) 8 1 [.ptr pb (po + 0 * 5)] =
        some (hset (hset (hset h nx (.cells zc)) (nx + 1) (.cells (.str t.name.1 t.name.2 :: (zc ++ [.nilptr, e])))) (nx + 1) (.cells (.str t.name.1 t.name.2 :: (zc ++ [.ptr pb (po + 0 * 5), e])))) :=
      putCells_ok' rfl rfl (hro_high (by rw [hset_lo, hset_lo]; omega)) hgf2 rfl
    have s3 := s2.put (id := nx + 1) (.cells (.str t.name.1 t.name.2 :: (zc ++ [.ptr pb (po + 0 * 5), e]))) (s.none (by omega)) (by omega) (by omega)
    have L3 := L2.put (id := nx + 1) (.cells (.str t.name.1 t.name.2 :: (zc ++ [.ptr pb (po + 0 * 5), e]))) (by omega) (by omega) (s.none (by omega)) hml
    have hgn3 : hget (hset (hset (hset h nx (.cells zc)) (nx + 1) (.cells (.str t.name.1 t.name.2 :: (zc ++ [.nilptr, e])))) (nx + 1) (.cells (.str t.name.1 t.name.2 :: (zc ++ [.ptr pb (po + 0 * 5), e])))) nx = some (.cells zc) := by rw [hget_set, if_neg (by omega)]; exact hgn2
    obtain ⟨cs3, ks3, ht3⟩ := rdp_at s3.mem (hp.mono L3.sle)
    obtain ⟨pb3, po3, cap3, hkse3, hp1, hblt1, _⟩ := rdks_at ht3.kids (i := 1) (show t.kids.drop 1 = t1 :: r by rw [htk]; rfl)
    have i1 : idx 5 ks3 (.int .i64 1) = some (.ptr pb3 (po3 + 1 * 5)) := by rw [hkse3]; exact (r_idx 5 pb3 po3 _ 5 cap3 .i64 1).trans (by rw [hblt1]; rfl)
    have hfr : RdE (sput σ (nx + 1) (.cells (.str t.name.1 t.name.2 :: (zc ++ [.ptr pb (po + 0 * 5), e])))) (Fr.mk t.name Vl.zero (some t0) :: env) (.ptr (nx + 1) 0) :=
      .cons t.name Vl.zero (some t0) env (nx + 1) zc _ e (sput_self _ _ _) (zero_rd _) (.some t0 pb (po + 0 * 5) (hp0.mono L3.sle)) (he.mono L3.sle)
    repeat (first | simp -eta only [SY, ↓reduceIte, Nat.reduceEqDiff, Nat.reduceAdd, r_loadB _ _ ht1.get, ht1.c2, hbld0, hbox0, r_loadB _ _ ht.get, ht.c3, ht.c4, en, i0, hput, r_loadB _ _ ht3.get, ht3.c4, i1] | simp -eta only [KY, ↓reduceIte, Nat.reduceEqDiff, R30_0_eq, R30_1_eq, R30_2_eq, R30_3_eq, R30_4_eq, R30_5_eq, R30_6_eq])
    refine Fin.last L3 (Nat.le_refl _) (by omega) (by unfold sput; rw [if_neg (by omega)]; exact hs0) hgn3 rfl s.mem (hev left hle t1 _ _ _ _ pb3 (po3 + 1 * 5) _ s3 hp1 hfr) (fun n d v h nx => ?_) (fun n d cs h' nx' hl hput hrun => ?_)
    · repeat (first | simp -eta only [SY, ↓reduceIte, Nat.reduceEqDiff, Nat.reduceAdd] | simp -eta only [KY, ↓reduceIte, Nat.reduceEqDiff, E30_pan])
    · have hg7 : hget (hset h' nx (.cells cs)) nx = some (.cells cs) := by rw [hget_set, if_pos rfl]
      repeat (first | simp -eta only [SY, ↓reduceIte, Nat.reduceEqDiff, Nat.reduceAdd, hput, r_loadB _ _ hg7, hrun] | simp -eta only [KY, ↓reduceIte, Nat.reduceEqDiff, E30_ret])
  · rw [if_neg hn]
    have en := eqI_ne hn
    show Fin M h nx σ _ (rthen (evalF M.lets fuel left t0 env) fun v l => evalF M.lets fuel l t1 (Fr.mk t.name v none :: env))
    repeat (first | simp -eta only [SY, ↓reduceIte, Nat.reduceEqDiff, Nat.reduceAdd, r_loadB _ _ ht1.get, ht1.c2, hbld0, hbox0, r_loadB _ _ ht.get, ht.c3, ht.c4, en, i0] | simp -eta only [KY, ↓reduceIte, Nat.reduceEqDiff, R30_0_eq, R30_1_eq, R30_2_eq, R30_3_eq, R30_4_eq, R30_5_eq])
    refine Fin.bind2 (k := fun v l => evalF M.lets fuel l t1 (Fr.mk t.name v none :: env)) L2 (hev left hle t0 _ _ _ _ pb (po + 0 * 5) _ s2 hp0 he) (fun n d v h nx => ?_) fun v l3 h3 n3 σ3 vcs hr3 L3 s3 hv => ?_
    · repeat (first | simp -eta only [SY, ↓reduceIte, Nat.reduceEqDiff, Nat.reduceAdd] | simp -eta only [KY, ↓reduceIte, Nat.reduceEqDiff, E30_pan])
    have hl3 := evalF_lt M.lets hr3
    have hle3 := L3.le
    have hg3 : hget h3 (nx + 1) = some (.cells (.str t.name.1 t.name.2 :: (zc ++ [.nilptr, e]))) := (L3.old (nx + 1) (by omega) (by omega)).trans hgf2
    have hs3 : σ3 (nx + 1) = none := (L3.sold (nx + 1) (by omega)).trans (s.none (by omega))
    have hput : putCells h3 (nx + 1) 1 7 vcs = some (hset h3 (nx + 1) (.cells (.str t.name.1 t.name.2 :: (vcs ++ [.nilptr, e])))) := by
      have h2 : lsplice 1 vcs (.str t.name.1 t.name.2 :: (zc ++ [.nilptr, e])) = some (.str t.name.1 t.name.2 :: (vcs ++ [.nilptr, e])) := by
        match vcs, rdv_len hv with
        | [_, _, _, _, _, _, _], _ => rfl
      exact putCells_ok' (rdv_len hv) (rdv_one hv) (hro_high (by rw [L3.lo, L2.lo]; omega)) hg3 h2
    have s4 := s3.put (id := nx + 1) (.cells (.str t.name.1 t.name.2 :: (vcs ++ [.nilptr, e]))) hs3 (by omega) (by omega)
    have L4 := (L2.trans L3).put (id := nx + 1) (.cells (.str t.name.1 t.name.2 :: (vcs ++ [.nilptr, e]))) (by omega) (by omega) hs3 hml
    have L34 := sput_le (x := .cells (.str t.name.1 t.name.2 :: (vcs ++ [.nilptr, e]))) hs3
    have hgn4 : hget (hset h3 (nx + 1) (.cells (.str t.name.1 t.name.2 :: (vcs ++ [.nilptr, e])))) nx = some (.cells zc) := by rw [hget_set, if_neg (by omega)]; exact (L3.old nx (by omega) (by omega)).trans hgn2
    have hsn4 : sput σ3 (nx + 1) (.cells (.str t.name.1 t.name.2 :: (vcs ++ [.nilptr, e]))) nx = none := by unfold sput; rw [if_neg (by omega)]; exact (L3.sold nx (by omega)).trans hs0
    obtain ⟨cs3, ks3, ht3⟩ := rdp_at s4.mem (hp.mono L4.sle)
    obtain ⟨pb3, po3, cap3, hkse3, hp1, hblt1, _⟩ := rdks_at ht3.kids (i := 1) (show t.kids.drop 1 = t1 :: r by rw [htk]; rfl)
    have i1 : idx 5 ks3 (.int .i64 1) = some (.ptr pb3 (po3 + 1 * 5)) := by rw [hkse3]; exact (r_idx 5 pb3 po3 _ 5 cap3 .i64 1).trans (by rw [hblt1]; rfl)
    have hfr : RdE (sput σ3 (nx + 1) (.cells (.str t.name.1 t.name.2 :: (vcs ++ [.nilptr, e])))) (Fr.mk t.name v none :: env) (.ptr (nx + 1) 0) :=
      .cons t.name v none env (nx + 1) vcs _ e (sput_self _ _ _) (hv.mono L34) .none (he.mono L4.sle)
    repeat (first | simp -eta only [SY, ↓reduceIte, Nat.reduceEqDiff, Nat.reduceAdd, hput, r_loadB _ _ ht3.get, ht3.c4, i1] | simp -eta only [KY, ↓reduceIte, Nat.reduceEqDiff, R30_6_eq])
    refine Fin.last L4 (Nat.le_refl _) (by omega) hsn4 hgn4 rfl s.mem (hev l3 (by omega) t1 _ _ _ _ pb3 (po3 + 1 * 5) _ s4 hp1 hfr) (fun n d v h nx => ?_) (fun n d cs h' nx' hl hput hrun => ?_)
    · repeat (first | simp -eta only [SY, ↓reduceIte, Nat.reduceEqDiff, Nat.reduceAdd] | simp -eta only [KY, ↓reduceIte, Nat.reduceEqDiff, E30_pan])
    · have hg7 : hget (hset h' nx (.cells cs)) nx = some (.cells cs) := by rw [hget_set, if_pos rfl]
      repeat (first | simp -eta only [SY, ↓reduceIte, Nat.reduceEqDiff, Nat.reduceAdd, hput, r_loadB _ _ hg7, hrun] | simp -eta only [KY, ↓reduceIte, Nat.reduceEqDiff, E30_ret])
end
end Go.Proofs.YtaajedkbaahgfaaGreatDoor

/-
What the functions of the law answer: match.
-/
namespace Go.Proofs.YtaajedkbaahgfaaGreatDoor
open Go Go.AE Go.EV
set_option maxRecDepth 100000
set_option maxHeartbeats 1000000
section
variable {M : Mc} {fuel : Nat} (hev : EvOk M fuel)
include hev
theorem match_loop {h0 : Heap} {nx0 : Nat} {σ0 : Sto} (hm0 : Mem h0 nx0 M.mb σ0) (t : Tm) (b o vb id : Nat) (vcs : List AV) (v : Vl) (env : List Fr) (e : AV) (hid0 : nx0 ≤ id) : ∀ (k : Nat) (arms : List Tm) (i left : Nat) (h : Heap) (nx : Nat) (σ : Sto) (j : Nat) (f : Nat → Option AV),
    arms.length ≤ k → t.kids.drop i = arms → i ≤ t.kids.length → Later h0 nx0 M.mb σ0 h nx σ → St M h nx σ left → left ≤ fuel → RdP σ t b o → σ vb = some (.cells vcs) → RdV σ v vcs → RdE σ env e →
    id < nx → σ id = none → hget h id = some (.cells zc) →
    f 0 = some (.ptr M.mb 0) → f 1 = some (.ptr b o) → f 2 = some e → f 6 = some (.ptr id 0) → f 7 = some (.ptr vb 0) → f 8 = some (.int .i64 (i : Int)) →
    Fin M h0 nx0 σ0 (fun n d => kLoop (R31_10 n (CN n d)) (n - j) (.fn f) [] h nx (kLeave 0 (kThen (R31_6 n (CN n d)) (E31 n (CN n d))))) (armF (evalF M.lets fuel) v env left arms) := by
  intro k
  -- no arm is left
  have done : ∀ (arms : List Tm) (i left : Nat) (h : Heap) (nx : Nat) (σ : Sto) (j : Nat) (f : Nat → Option AV),
      t.kids.drop i = arms → arms.length ≤ 1 → i ≤ t.kids.length → Later h0 nx0 M.mb σ0 h nx σ → St M h nx σ left → RdP σ t b o →
      id < nx → σ id = none → hget h id = some (.cells zc) → f 1 = some (.ptr b o) → f 6 = some (.ptr id 0) → f 8 = some (.int .i64 (i : Int)) →
      Fin M h0 nx0 σ0 (fun n d => kLoop (R31_10 n (CN n d)) (n - j) (.fn f) [] h nx (kLeave 0 (kThen (R31_6 n (CN n d)) (E31 n (CN n d))))) (.err 8 left) := by
    intro arms i left h nx σ j f hts hshort hile L s hp hidn hsid hgid f1 f6 f8
    obtain ⟨cs, ks, ht⟩ := rdp_at s.mem hp
    have hlen := rdks_len ht.kids
    have hbig : t.kids.length < 4611686018427387904 := by
      have hk := ht.kids
      generalize t.kids = q at hk
      cases hk with
      | nil => exact (by decide : (0 : Nat) < 4611686018427387904)
      | row _ _ _ _ _ _ hl _ => exact hl
    have hl := congrArg List.length hts
    rw [List.length_drop] at hl
    have hinc : wrapF .i64 (addI (i : Int) 1) = ((i + 1 : Nat) : Int) := by rw [add_small (by omega) (by omega) (by omega)]; omega
    have hlt : ltI ((i + 1 : Nat) : Int) (t.kids.length : Int) = false := by rw [ltI_nat]; simp; omega
    have hst := stuck_fin s
    refine Fin.map (fun c hc => Ev.round (B := fun n d => R31_10 n (CN n d)) (tm := fun _ _ => .fn f) (K := fun n d => kLeave 0 (kThen (R31_6 n (CN n d)) (E31 n (CN n d)))) hc) ?_
    repeat (first | simp -eta only [SY, ↓reduceIte, Nat.reduceEqDiff, Nat.reduceAdd, f1, f6, f8, r_loadB _ _ ht.get, ht.c4, hlen, hinc, hlt] | simp -eta only [KY, ↓reduceIte, Nat.reduceEqDiff, R31_10_eq, R31_6_eq])
    refine Fin.last L hid0 hidn hsid hgid rfl hm0 hst (fun n d v h nx => ?_) (fun n d cs h' nx' hl hput hrun => ?_)
    · repeat (first | simp -eta only [SY, ↓reduceIte, Nat.reduceEqDiff, Nat.reduceAdd] | simp -eta only [KY, ↓reduceIte, Nat.reduceEqDiff, E31_pan])
    · have hg7 : hget (hset h' id (.cells cs)) id = some (.cells cs) := by rw [hget_set, if_pos rfl]
      repeat (first | simp -eta only [SY, ↓reduceIte, Nat.reduceEqDiff, Nat.reduceAdd, f6, hput, r_loadB _ _ hg7, hrun] | simp -eta only [KY, ↓reduceIte, Nat.reduceEqDiff, E31_ret])
  induction k with
  | zero =>
    intro arms i left h nx σ j f hk hts hile L s hle hp hvb hv he hidn hsid hgid f0 f1 f2 f6 f7 f8
    have : arms = [] := List.eq_nil_of_length_eq_zero (by omega)
    subst this
    exact done [] i left h nx σ j f hts (by simp) hile L s hp hidn hsid hgid f1 f6 f8
  | succ k ih =>
    intro arms i left h nx σ j f hk hts hile L s hle hp hvb hv he hidn hsid hgid f0 f1 f2 f6 f7 f8
    match arms, hk, hts with
    | [], _, hts => exact done [] i left h nx σ j f hts (by simp) hile L s hp hidn hsid hgid f1 f6 f8
    | [a], _, hts => exact done [a] i left h nx σ j f hts (by simp) hile L s hp hidn hsid hgid f1 f6 f8
    | p :: a :: r, hk, hts =>
    have hml := s.mem.mlt
    have hlo := hm0.lo
    obtain ⟨cs, ks, ht⟩ := rdp_at s.mem hp
    have hlen := rdks_len ht.kids
    obtain ⟨pb, po, cap, hkse, hpp, hbltp, hbig⟩ := rdks_at ht.kids hts
    have hts1 := drop_tail hts
    have hi1 := drop_lt hts1
    have hinc : wrapF .i64 (addI (i : Int) 1) = ((i + 1 : Nat) : Int) := by rw [add_small (by omega) (by omega) (by omega)]; omega
    have hlt : ltI ((i + 1 : Nat) : Int) (t.kids.length : Int) = true := by rw [ltI_nat]; simpa using hi1
    have ip : idx 5 ks (.int .i64 (i : Int)) = some (.ptr pb (po + i * 5)) := by rw [hkse]; exact (r_idx 5 pb po _ 5 cap .i64 i).trans (by rw [hbltp]; rfl)
    have hgv := s.mem.sat vb _ hvb
    have hval : (pkAgg 7).run vcs 0 = some (.agg vcs) := pkAgg_run (by rw [List.drop_zero, List.take_of_length_le (by rw [rdv_len hv]; omega)]) (rdv_len hv)
    have sM := s.more (nx' := nx + 14) (by omega)
    have LM := L.trans (s.mem.more (nx' := nx + 14) (by omega))
    obtain ⟨h1, nx1, σ1, e1, L1, hR1, hE1, hm1⟩ := take_ok p h (nx + 14) M.mb σ v vcs env e pb (po + i * 5) sM.mem hpp hv he
    have s1 := sM.to L1 hm1
    have LA := LM.trans L1
    have hid1 : id < nx1 := by have := L1.le; omega
    have hsid1 : σ1 id = none := (L1.sold id (by omega)).trans hsid
    have hne : id ≠ M.mb := by have := hm0.mlt; omega
    have hgid1 : hget h1 id = some (.cells zc) := (L1.old id (by omega) hne).trans hgid
    refine Fin.map (fun c hc => Ev.round (B := fun n d => R31_10 n (CN n d)) (tm := fun _ _ => .fn f) (K := fun n d => kLeave 0 (kThen (R31_6 n (CN n d)) (E31 n (CN n d)))) hc) ?_
    repeat (first | simp -eta only [SY, ↓reduceIte, Nat.reduceEqDiff, Nat.reduceAdd, f0, f1, f2, f6, f7, f8, r_loadB _ _ ht.get, ht.c4, hlen, hinc, hlt, ip, r_loadB _ _ hgv, hval] | simp -eta only [KY, ↓reduceIte, Nat.reduceEqDiff, R31_10_eq])
    refine Fin.map (fun c hc => Ev.call hR1 hc) ?_
    unfold armF
    cases htk : takeP p v env with
    | none =>
      have hinc2 : wrapF .i64 (addI (i : Int) 2) = ((i + 2 : Nat) : Int) := by rw [add_small (by omega) (by omega) (by omega)]; omega
      have hih := ih r (i + 2) left h1 nx1 σ1 (j + 1) (tmL f [(8, .int .i64 ((i + 2 : Nat) : Int)), (41, .bool false), (10, .bool false), (9, e1), (26, .bool true)])
        (by simp at hk; omega) (by have := drop_tail hts1; rwa [show i + 1 + 1 = i + 2 from rfl] at this) (by omega) LA s1 hle (hp.mono L1.sle) (L1.sle _ _ hvb) (hv.mono L1.sle) (he.mono L1.sle) hid1 hsid1 hgid1
        f0 f1 f2 f6 f7 rfl
      repeat (first | simp -eta only [SY, ↓reduceIte, Nat.reduceEqDiff, Nat.reduceAdd, r_ext0, r_ext1, Option.isSome_none, Option.isSome_some, f8, hinc2] | simp -eta only [KY, ↓reduceIte, Nat.reduceEqDiff])
      exact hih
    | some env1 =>
      have hE := hE1 env1 htk
      obtain ⟨cs1, ks1, ht1⟩ := rdp_at s1.mem (hp.mono L1.sle)
      obtain ⟨pb1, po1, cap1, hkse1, hpa, hblta, _⟩ := rdks_at ht1.kids hts1
      have ia : idx 5 ks1 (.int .i64 ((i + 1 : Nat) : Int)) = some (.ptr pb1 (po1 + (i + 1) * 5)) := by rw [hkse1]; exact (r_idx 5 pb1 po1 _ 5 cap1 .i64 (i + 1)).trans (by rw [hblta]; rfl)
      have hev1 := hev left hle a env1 h1 nx1 σ1 pb1 (po1 + (i + 1) * 5) e1 s1 hpa hE
      repeat (first | simp -eta only [SY, ↓reduceIte, Nat.reduceEqDiff, Nat.reduceAdd, r_ext0, r_ext1, Option.isSome_none, Option.isSome_some, f0, f1, f8, r_loadB _ _ ht1.get, ht1.c4, hinc, ia] | simp -eta only [KY, ↓reduceIte, Nat.reduceEqDiff])
      refine Fin.last LA hid0 hid1 hsid1 hgid1 rfl hm0 hev1 (fun n d v h nx => ?_) (fun n d cs h' nx' hl hput hrun => ?_)
      · repeat (first | simp -eta only [SY, ↓reduceIte, Nat.reduceEqDiff, Nat.reduceAdd] | simp -eta only [KY, ↓reduceIte, Nat.reduceEqDiff, E31_pan])
      · have hg7 : hget (hset h' id (.cells cs)) id = some (.cells cs) := by rw [hget_set, if_pos rfl]
        repeat (first | simp -eta only [SY, ↓reduceIte, Nat.reduceEqDiff, Nat.reduceAdd, f6, hput, r_loadB _ _ hg7, hrun] | simp -eta only [KY, ↓reduceIte, Nat.reduceEqDiff, E31_ret])
theorem match_ok {left : Nat} (hle : left ≤ fuel) {t t0 : Tm} {arms : List Tm} (htk : t.kids = t0 :: arms) {env : List Fr} {h : Heap} {nx : Nat} {σ : Sto} {b o : Nat} {e : AV} (s : St M h nx σ left) (hp : RdP σ t b o) (he : RdE σ env e) :
    Fin M h nx σ (fun n d => CN n d 31 [.ptr M.mb 0, .ptr b o, e] h nx) (matF (evalF M.lets fuel) left t0 arms env) := by
  have hml := s.mem.mlt
  have hs0 := s.none (Nat.le_refl nx)
  have hz := s.mem.alloc (id := nx) (nx' := nx + 1) (x := .cells zc) (Nat.le_refl _) (Nat.lt_succ_self _)
  have s1 := s.alloc (id := nx) (nx' := nx + 1) (.cells zc) (Nat.le_refl _) (Nat.lt_succ_self _)
  have hgn : hget (hset h nx (.cells zc)) nx = some (.cells zc) := by rw [hget_set, if_pos rfl]
  obtain ⟨cs, ks, ht⟩ := rdp_at s1.mem hp
  obtain ⟨pb, po, cap, hkse, hp0, hblt0, hbig⟩ := rdks_at ht.kids (i := 0) htk
  have i0 : idx 5 ks (.int .i64 0) = some (.ptr pb (po + 0 * 5)) := by rw [hkse]; exact (r_idx 5 pb po _ 5 cap .i64 0).trans (by rw [hblt0]; rfl)
  refine Fin.map (g := fun n d => F31 n (CN n d) M.mb 0 b o e h nx) (fun c hc => Rn.of (f := 31) (l := [.ptr M.mb 0, .ptr b o, e]) (g := fun n d => F31 n (CN n d) M.mb 0 b o e h nx) (fun n d => F31_eq sp31 n (CN n d) M.mb 0 b o e h nx) hc) ?_
  unfold F31
  show Fin M h nx σ _ (rthen (evalF M.lets fuel left t0 env) fun v l => armF (evalF M.lets fuel) v env l arms)
  repeat (first | simp -eta only [SY, ↓reduceIte, Nat.reduceEqDiff, Nat.reduceAdd, r_loadB _ _ ht.get, ht.c4, i0] | simp -eta only [KY, ↓reduceIte, Nat.reduceEqDiff, R31_0_eq, R31_1_eq, R31_2_eq, R31_3_eq])
  refine Fin.bind2 (k := fun v l => armF (evalF M.lets fuel) v env l arms) hz (hev left hle t0 _ _ _ _ pb (po + 0 * 5) _ s1 hp0 he) (fun n d v h nx => ?_) fun v l3 h3 n3 σ3 vcs hr3 L3 s3 hv => ?_
  · repeat (first | simp -eta only [SY, ↓reduceIte, Nat.reduceEqDiff, Nat.reduceAdd] | simp -eta only [KY, ↓reduceIte, Nat.reduceEqDiff, E31_pan])
  have hl3 := evalF_lt M.lets hr3
  have hle3 := L3.le
  obtain ⟨s5, L5⟩ := s3.zfill (cs := vcs) (hz.trans L3)
  have L35 := (s3.zfill (cs := vcs) (Later.refl s3.mem)).2
  have hz3 := zput (h := h3) (id := n3) (l0 := zc) (rdv_len hv) (rdv_one hv) s3.mem.lo rfl
  have hgn5 : hget (hset (hset h3 n3 (.cells zc)) n3 (.cells vcs)) nx = some (.cells zc) := (L35.old nx (by omega) (by omega)).trans ((L3.old nx (by omega) (by omega)).trans hgn)
  have hsn5 : sput σ3 n3 (.cells vcs) nx = none := (L35.sold nx (by omega)).trans ((L3.sold nx (by omega)).trans hs0)
  have hlp := match_loop hev s.mem t b o n3 nx vcs v env e (Nat.le_refl _) arms.length arms 1 l3 _ _ _ 0 (tmL (tmL (tmL (tmL tm0 [(2, e), (1, .ptr b o), (0, .ptr M.mb 0)]) [(6, .ptr nx 0)]) [(7, .ptr n3 0)]) [(8, .int .i64 1)])
    (Nat.le_refl _) (by rw [htk]; rfl) (by rw [htk]; simp) L5 s5 (by omega) (hp.mono L5.sle) (sput_self _ _ _) (hv.mono L35.sle) (he.mono L5.sle) (by omega) hsn5 hgn5 rfl rfl rfl rfl rfl (by show _ = some (AV.int .i64 1); repeat (first | simp -eta only [SY, ↓reduceIte, Nat.reduceEqDiff, Nat.reduceAdd] | simp -eta only [KY, ↓reduceIte, Nat.reduceEqDiff]))
  refine Fin.map (fun c hc => ?_) hlp
  repeat (first | simp -eta only [SY, ↓reduceIte, Nat.reduceEqDiff, Nat.reduceAdd, hz3] | simp -eta only [KY, ↓reduceIte, Nat.reduceEqDiff, R31_4_eq, R31_5_eq, R31_7_eq, R31_8_eq, R31_9_eq])
  exact Ev.loop (B := fun n d => R31_10 n (CN n d)) (tm := fun _ _ => .fn _) hc
end
end Go.Proofs.YtaajedkbaahgfaaGreatDoor

/-
Residual of function 15
-/
namespace Go.Proofs.YtaajedkbaahgfaaGreatDoor
open Go Go.AE
set_option maxRecDepth 100000
/-! (touchstone/eval.machine).eval -/
noncomputable def C15 : Code := Tryz.f15.body.getD .skip
noncomputable def E15 (n : Nat) (call : CallF) : KX CRes := kEnd Tryz.prog true locOfF n call (mapL (rsVar Tryz.prog 7) Tryz.f15.results.toList)
noncomputable def F15 (n : Nat) (call : CallF) (pb0 po0 : Nat) (pb1 po1 : Nat) (a2 : AV) (h : Heap) (nx : Nat) : Option CRes :=
  letH (hset h nx (.cells [(.int .i64 0), (.str 0 0), (.str 0 0), (.int .i64 0), .nilslice, .nilptr, .nilptr])) (Nat.succ nx) fun h1 n2 =>
  bd (clR call 24 [(.ptr pb0 po0)] h1 n2) (ares (fun v3 h4 n5 =>
  bd (clR call 25 [(.ptr pb1 po1)] h4 n5) (ares (fun v6 h7 n8 =>
  bd (unNot v6) fun v9 =>
  onBool v9 fun b10 => sl b10
  (bd (clR call 26 [] h7 n8) (ares (fun v11 h12 n13 =>
  bd (stR 7 h12 n13 (.ptr nx 0) v11) (ares (fun v14 h15 n16 =>
  retL [(loadB (pkAgg 7) h15 nx 0)] h15 n16) (fun v17 h18 n19 => some (.pan v17 h18 n19)))) (fun v20 h21 n22 => some (.pan v20 h21 n22))))
  (bd (loadB pkOne h7 pb1 po1) fun v23 =>
  bd (binV .eql (eqT Tryz.prog 8 3) true (!(Tryz.prog.eqGuardType Tryz.prog.depth 3)) (.int .i64 21) v23) fun v24 =>
  onBool v24 fun b25 => sl b25
  (bd (clR call 27 [(.ptr pb0 po0), (.ptr pb1 po1), a2] h7 n8) (ares (fun v26 h27 n28 =>
  bd (stR 7 h27 n28 (.ptr nx 0) v26) (ares (fun v29 h30 n31 =>
  retL [(loadB (pkAgg 7) h30 nx 0)] h30 n31) (fun v32 h33 n34 => some (.pan v32 h33 n34)))) (fun v35 h36 n37 => some (.pan v35 h36 n37))))
  (bd (binV .eql (eqT Tryz.prog 8 3) true (!(Tryz.prog.eqGuardType Tryz.prog.depth 3)) (.int .i64 22) v23) fun v38 =>
  onBool v38 fun b39 => sl b39
  (bd (loadB pkOne h7 pb1 (po1 + 3)) fun v40 =>
  bd (bld [(.int .i64 0), (.str 0 0), (.str 0 0), (.int .i64 0), .nilslice, .nilptr, .nilptr] [(0, 1, (.int .i64 13)), (3, 1, v40)]) fun v41 =>
  bd (stR 7 h7 n8 (.ptr nx 0) v41) (ares (fun v42 h43 n44 =>
  retL [(loadB (pkAgg 7) h43 nx 0)] h43 n44) (fun v45 h46 n47 => some (.pan v45 h46 n47))))
  (bd (binV .eql (eqT Tryz.prog 8 3) true (!(Tryz.prog.eqGuardType Tryz.prog.depth 3)) (.int .i64 23) v23) fun v48 =>
  onBool v48 fun b49 => sl b49
  (bd (loadB pkOne h7 pb1 (po1 + 2)) fun v50 =>
  bd (bld [(.int .i64 0), (.str 0 0), (.str 0 0), (.int .i64 0), .nilslice, .nilptr, .nilptr] [(0, 1, (.int .i64 14)), (2, 1, v50)]) fun v51 =>
  bd (stR 7 h7 n8 (.ptr nx 0) v51) (ares (fun v52 h53 n54 =>
  retL [(loadB (pkAgg 7) h53 nx 0)] h53 n54) (fun v55 h56 n57 => some (.pan v55 h56 n57))))
  (bd (binV .eql (eqT Tryz.prog 8 3) true (!(Tryz.prog.eqGuardType Tryz.prog.depth 3)) (.int .i64 25) v23) fun v58 =>
  onBool v58 fun b59 => sl b59
  (bd (loadB pkOne h7 pb1 (po1 + 4)) fun v60 =>
  bd (clR call 28 [(.ptr pb0 po0), v60, a2] h7 n8) (ares (fun v61 h62 n63 =>
  bd (bld [(.int .i64 0), (.str 0 0), (.str 0 0), (.int .i64 0), .nilslice, .nilptr, .nilptr] [(0, 1, (.int .i64 16)), (4, 1, v61)]) fun v64 =>
  bd (stR 7 h62 n63 (.ptr nx 0) v64) (ares (fun v65 h66 n67 =>
  retL [(loadB (pkAgg 7) h66 nx 0)] h66 n67) (fun v68 h69 n70 => some (.pan v68 h69 n70)))) (fun v71 h72 n73 => some (.pan v71 h72 n73))))
  (bd (binV .eql (eqT Tryz.prog 8 3) true (!(Tryz.prog.eqGuardType Tryz.prog.depth 3)) (.int .i64 24) v23) fun v74 =>
  onBool v74 fun b75 => sl b75
  (bd (bd ((loadB pkOne h7 pb1 (po1 + 4))) fun v76 => some v76) fun v77 =>
  bd (clR call 28 [(.ptr pb0 po0), v77, a2] h7 (n8 + 17)) (ares (fun v78 h79 n80 =>
  bd (bd ((loadB pkOne h79 pb1 (po1 + 1))) fun v81 => gd (an (bb (loadB pkOne h7 pb1 (po1 + 1)) fun u82 => beqV v81 u82) true) (some v81)) fun v83 =>
  bd (bd ((loadB pkOne h79 pb1 (po1 + 2))) fun v84 => gd (an (bb (loadB pkOne h7 pb1 (po1 + 2)) fun u85 => beqV v84 u85) true) (some v84)) fun v86 =>
  bd (bd ((bld [(.int .i64 0), (.str 0 0), (.str 0 0), (.int .i64 0), .nilslice, .nilptr, .nilptr] [(0, 1, (.int .i64 15)), (1, 1, v83), (2, 1, v86), (4, 1, v78)])) fun v87 => some v87) fun v88 =>
  bd (stR 7 h79 n80 (.ptr nx 0) v88) (ares (fun v89 h90 n91 =>
  retL [(loadB (pkAgg 7) h90 nx 0)] h90 n91) (fun v92 h93 n94 => some (.pan v92 h93 n94)))) (fun v95 h96 n97 => bd (bd ((loadB pkOne h7 pb1 (po1 + 1))) fun v98 => some v98) fun v99 =>
  bd (bd ((loadB pkOne h7 pb1 (po1 + 2))) fun v100 => some v100) fun v101 =>
  some (.pan v95 h96 n97))))
  (bd (binV .eql (eqT Tryz.prog 8 3) true (!(Tryz.prog.eqGuardType Tryz.prog.depth 3)) (.int .i64 26) v23) fun v102 =>
  onBool v102 fun b103 => sl b103
  (bd (bld [(.int .i64 0), (.str 0 0), (.str 0 0), (.int .i64 0), .nilslice, .nilptr, .nilptr] [(0, 1, (.int .i64 11)), (5, 1, (.ptr pb1 po1)), (6, 1, a2)]) fun v104 =>
  bd (stR 7 h7 n8 (.ptr nx 0) v104) (ares (fun v105 h106 n107 =>
  retL [(loadB (pkAgg 7) h106 nx 0)] h106 n107) (fun v108 h109 n110 => some (.pan v108 h109 n110))))
  (bd (binV .eql (eqT Tryz.prog 8 3) true (!(Tryz.prog.eqGuardType Tryz.prog.depth 3)) (.int .i64 27) v23) fun v111 =>
  onBool v111 fun b112 => sl b112
  (bd (clR call 29 [(.ptr pb0 po0), (.ptr pb1 po1), a2] h7 n8) (ares (fun v113 h114 n115 =>
  bd (stR 7 h114 n115 (.ptr nx 0) v113) (ares (fun v116 h117 n118 =>
  retL [(loadB (pkAgg 7) h117 nx 0)] h117 n118) (fun v119 h120 n121 => some (.pan v119 h120 n121)))) (fun v122 h123 n124 => some (.pan v122 h123 n124))))
  (bd (binV .eql (eqT Tryz.prog 8 3) true (!(Tryz.prog.eqGuardType Tryz.prog.depth 3)) (.int .i64 28) v23) fun v125 =>
  onBool v125 fun b126 => sl b126
  (bd (clR call 30 [(.ptr pb0 po0), (.ptr pb1 po1), a2] h7 n8) (ares (fun v127 h128 n129 =>
  bd (stR 7 h128 n129 (.ptr nx 0) v127) (ares (fun v130 h131 n132 =>
  retL [(loadB (pkAgg 7) h131 nx 0)] h131 n132) (fun v133 h134 n135 => some (.pan v133 h134 n135)))) (fun v136 h137 n138 => some (.pan v136 h137 n138))))
  (bd (binV .eql (eqT Tryz.prog 8 3) true (!(Tryz.prog.eqGuardType Tryz.prog.depth 3)) (.int .i64 29) v23) fun v139 =>
  onBool v139 fun b140 => sl b140
  (bd (clR call 31 [(.ptr pb0 po0), (.ptr pb1 po1), a2] h7 n8) (ares (fun v141 h142 n143 =>
  bd (stR 7 h142 n143 (.ptr nx 0) v141) (ares (fun v144 h145 n146 =>
  retL [(loadB (pkAgg 7) h145 nx 0)] h145 n146) (fun v147 h148 n149 => some (.pan v147 h148 n149)))) (fun v150 h151 n152 => some (.pan v150 h151 n152))))
  (bd (binV .eql (eqT Tryz.prog 8 3) true (!(Tryz.prog.eqGuardType Tryz.prog.depth 3)) (.int .i64 30) v23) fun v153 =>
  onBool v153 fun b154 => sl b154
  (bd (loadB pkOne h7 pb1 (po1 + 4)) fun v155 =>
  bd (idx 5 v155 (.int .i64 0)) fun v156 =>
  bd (clR call 15 [(.ptr pb0 po0), v156, a2] h7 n8) (ares (fun v157 h158 n159 =>
  bd (stR 7 h158 n159 (.ptr nx 0) v157) (ares (fun v160 h161 n162 =>
  retL [(loadB (pkAgg 7) h161 nx 0)] h161 n162) (fun v163 h164 n165 => some (.pan v163 h164 n165)))) (fun v166 h167 n168 => some (.pan v166 h167 n168))))
  (bd (clR call 26 [] h7 n8) (ares (fun v169 h170 n171 =>
  bd (stR 7 h170 n171 (.ptr nx 0) v169) (ares (fun v172 h173 n174 =>
  retL [(loadB (pkAgg 7) h173 nx 0)] h173 n174) (fun v175 h176 n177 => some (.pan v175 h176 n177)))) (fun v178 h179 n180 => some (.pan v178 h179 n180))))))))))))))) (fun v181 h182 n183 => some (.pan v181 h182 n183)))) (fun v184 h185 n186 => some (.pan v184 h185 n186)))
theorem F15_eq {sp : Specs} (hsp : sp 15 = none) (n : Nat) (call : CallF) (pb0 po0 : Nat) (pb1 po1 : Nat) (a2 : AV) (h : Heap) (nx : Nat) : callS Tryz.prog true sp locOfF n call 15 [(.ptr pb0 po0), (.ptr pb1 po1), a2] h nx = F15 n call pb0 po0 pb1 po1 a2 h nx :=
  (call_eq2 Tryz.func15 (c := C15) (N := 99) (dp := 7) (L := 633510902625665921507764533120) (tm := (.fn (tmL tm0 [(2, a2), (1, (.ptr pb1 po1)), (0, (.ptr pb0 po0))]))) (by kernel_rfl) (by kernel_rfl) (by kernel_rfl) (by kernel_rfl) (by kernel_rfl) (by kernel_rfl) hsp n call h nx).trans (by kernel_rfl)
theorem E15_normal (n : Nat) (call : CallF) (f : Nat → Option AV) (h : Heap) (nx : Nat) : E15 n call h nx .normal (.fn f) [] = retL [(bd (f 6) fun v187 => (ldA 7 h v187))] h nx := by kernel_rfl
theorem E15_ret (n : Nat) (call : CallF) (f : Nat → Option AV) (h : Heap) (nx : Nat) : E15 n call h nx .ret (.fn f) [] = retL [(bd (f 6) fun v187 => (ldA 7 h v187))] h nx := by kernel_rfl
theorem E15_pan (n : Nat) (call : CallF) (v : AV) (tm : TM) (h : Heap) (nx : Nat) : E15 n call h nx (.pan v) tm [] = some (.pan v h nx) := by kernel_rfl
end Go.Proofs.YtaajedkbaahgfaaGreatDoor

/-
What the functions of the law answer: eval.
-/
namespace Go.Proofs.YtaajedkbaahgfaaGreatDoor
open Go Go.AE Go.EV
set_option maxRecDepth 100000
set_option maxHeartbeats 2000000
theorem sp15 : spL 15 = none := rfl
/-- an answer in hand, put into the result's cells -/
theorem ret_res2 {M : Mc} {h h0 : Heap} {nx nx0 : Nat} {σ σ0 : Sto} {id lf : Nat} {cs : List AV} {v : Vl} {kv : Nat → Nat → Option CRes} (L : Later h0 nx0 M.mb σ0 h nx σ) (s : St M h nx σ lf) (hv : RdV σ v cs) (hid : nx0 ≤ id) (hs : σ id = none) (hg : hget h id = some (.cells zc)) (hm : Mem h0 nx0 M.mb σ0)
    (hk : ∀ n d, putCells h id 0 7 cs = some (hset h id (.cells cs)) → (pkAgg 7).run cs 0 = some (.agg cs) → kv n d = some (.ret (.agg cs) (hset h id (.cells cs)) nx)) : Fin M h0 nx0 σ0 kv (.ok v lf) := by
  have hml := hm.mlt
  have hlo := hm.lo
  have hput : putCells h id 0 7 cs = some (hset h id (.cells cs)) := by
    have h2 : lsplice 0 cs zc = some cs := by
      match cs, rdv_len hv with
      | [_, _, _, _, _, _, _], _ => rfl
    exact putCells_ok' (rdv_len hv) (rdv_one hv) (hro_high (by rw [L.lo]; omega)) hg h2
  exact ⟨hset h id (.cells cs), nx, σ, cs, L.write _ hid hs, s.write _ hs (by omega), Ev.pure fun n d => hk n d hput (pkAgg_run (by rw [List.drop_zero, List.take_of_length_le (by rw [rdv_len hv]; omega)]) (rdv_len hv)), hv⟩
theorem rdvs_one {σ : Sto} {vs : List Vl} {ks : AV} (h : RdVs σ vs ks) : ks = .nilslice ∨ ∃ b o n c z, ks = .slice b o n c z := by
  cases h with
  | nil => exact .inl rfl
  | row kids b o cap cs hb hl h => exact .inr ⟨_, _, _, _, _, rfl⟩
section
variable {M : Mc}
theorem eval_zero {t : Tm} {h : Heap} {nx : Nat} {σ : Sto} {b o : Nat} {e : AV} (s : St M h nx σ 0) (hp : RdP σ t b o) :
    Fin M h nx σ (fun n d => CN n d 15 [.ptr M.mb 0, .ptr b o, e] h nx) (.err 9 0) := by
  have hml := s.mem.mlt
  have hz := s.mem.alloc (id := nx) (nx' := nx + 1) (x := .cells zc) (Nat.le_refl _) (Nat.lt_succ_self _)
  have s1 := s.alloc (id := nx) (nx' := nx + 1) (.cells zc) (Nat.le_refl _) (Nat.lt_succ_self _)
  have hst := step_lim (nx := nx + 1) (by simpa using s1.mch)
  refine ⟨_, nx + 1 + 9, σ, hz.trans (s1.mem.more (by omega)), s1.more (by omega), ?_⟩
  refine Rn.of (f := 15) (l := [.ptr M.mb 0, .ptr b o, e]) (g := fun n d => F15 n (CN n d) M.mb 0 b o e h nx) (fun n d => F15_eq sp15 n (CN n d) M.mb 0 b o e h nx) ?_
  unfold F15
  repeat (first | simp -eta only [SY, ↓reduceIte, Nat.reduceEqDiff, Nat.reduceAdd] | simp -eta only [KY, ↓reduceIte, Nat.reduceEqDiff])
  refine Ev.callPan hst ?_
  exact Ev.some _
theorem eval_succ {fuel : Nat} (hev : EvOk M fuel) {left : Nat} (hle : left ≤ fuel) {t : Tm} {env : List Fr} {h : Heap} {nx : Nat} {σ : Sto} {b o : Nat} {e : AV} (s : St M h nx σ (left + 1)) (hp : RdP σ t b o) (he : RdE σ env e) :
    Fin M h nx σ (fun n d => CN n d 15 [.ptr M.mb 0, .ptr b o, e] h nx) (if fits t then bodyF M.lets (evalF M.lets fuel) left t env else .err 8 left) := by
  have hml := s.mem.mlt
  have hs0 := s.none (Nat.le_refl nx)
  have hle1 := s.le
  have hhi := s.hi
  have hz := s.mem.alloc (id := nx) (nx' := nx + 1) (x := .cells zc) (Nat.le_refl _) (Nat.lt_succ_self _)
  have s1 := s.alloc (id := nx) (nx' := nx + 1) (.cells zc) (Nat.le_refl _) (Nat.lt_succ_self _)
  have hst := step_ok (nx := nx + 1) s1.mch (hro_high (by have := s1.mlo; rw [hset_lo] at this ⊢; exact this)) (by omega) (by omega) (by omega)
  -- the machine's cells, turned
  obtain ⟨h2, hh2⟩ : ∃ h2, h2 = hset (hset h nx (.cells zc)) M.mb (.cells [M.mv, .int .i64 ((M.most : Int) - ((left + 1 : Nat) : Int) + 1), .int .i64 (M.most : Int)]) := ⟨_, rfl⟩
  rw [← hh2] at hst
  have hmb : σ M.mb = none := s.mem.mn
  have L2 : Later h nx M.mb σ h2 (nx + 1 + 9) σ := by
    refine ⟨⟨fun b x hb => ?_, fun b x hb => Nat.lt_of_lt_of_le (s.mem.dom b x hb) (by omega), hmb, by rw [hh2, hset_lo, hset_lo]; have := s.mem.lo; omega, by omega⟩, by omega, fun b hb hm => ?_, by rw [hh2, hset_lo, hset_lo], fun _ _ h => h, fun _ _ => rfl⟩
    · rw [hh2, hget_set, if_neg (fun e => by rw [e, hmb] at hb; cases hb)]; exact s1.mem.sat b x hb
    · rw [hh2, hget_set, if_neg hm, hget_set, if_neg (by omega)]
  have s2 : St M h2 (nx + 1 + 9) σ left := ⟨L2.mem, by rw [hh2, hget_set, if_pos rfl]; congr 5; omega, by rw [L2.lo]; exact s.mlo, s.lets, by omega, hhi⟩
  have hgn : hget h2 nx = some (.cells zc) := by rw [hh2, hget_set, if_neg (by omega), hget_set, if_pos rfl]
  have hft := fits_ok s2.mem hp
  refine Fin.map (g := fun n d => F15 n (CN n d) M.mb 0 b o e h nx) (fun c hc => Rn.of (f := 15) (l := [.ptr M.mb 0, .ptr b o, e]) (g := fun n d => F15 n (CN n d) M.mb 0 b o e h nx) (fun n d => F15_eq sp15 n (CN n d) M.mb 0 b o e h nx) hc) ?_
  unfold F15
  repeat (first | simp -eta only [SY, ↓reduceIte, Nat.reduceEqDiff, Nat.reduceAdd] | simp -eta only [KY, ↓reduceIte, Nat.reduceEqDiff])
  refine Fin.map (fun c hc => Ev.call hst hc) ?_
  refine Fin.map (fun c hc => Ev.call hft hc) ?_
  have hlast := fun {g : FuncId} {l : List AV} {r : Res} (hf : Fin M h2 (nx + 1 + 9) σ (fun n d => CN n d g l h2 (nx + 1 + 9)) r) => Fin.tail (l0 := zc) L2 (Nat.le_refl _) (by omega) hs0 hgn rfl s.mem hf
  cases hfit : fits t with
  | false =>
    rw [if_neg (by simp)]
    repeat (first | simp -eta only [SY, ↓reduceIte, Nat.reduceEqDiff, Nat.reduceAdd] | simp -eta only [KY, ↓reduceIte, Nat.reduceEqDiff])
    exact hlast (stuck_fin s2)
  | true =>
  rw [if_pos rfl]
  obtain ⟨cs, ks, ht⟩ := rdp_at s2.mem hp
  have hbld := fun (l : List (Nat × Nat × AV)) => bld zc l
  unfold bodyF
  by_cases h21 : t.kind = 21
  · rw [if_pos h21]
    have e21 : eqI t.kind 21 = true := by rw [h21]; rfl
    repeat (first | simp -eta only [SY, ↓reduceIte, Nat.reduceEqDiff, Nat.reduceAdd, r_loadB _ _ ht.get, ht.c0, e21] | simp -eta only [KY, ↓reduceIte, Nat.reduceEqDiff])
    exact hlast (variable_ok hev hle s2 hp he)
  rw [if_neg h21]
  have e21 := eqI_ne h21
  by_cases h22 : t.kind = 22
  · rw [if_pos h22]
    have e22 : eqI t.kind 22 = true := by rw [h22]; rfl
    have hb : bld [.int .i64 0, .str 0 0, .str 0 0, .int .i64 0, .nilslice, .nilptr, .nilptr] [(0, 1, .int .i64 13), (3, 1, .int .i64 t.n)] = some (.agg [.int .i64 13, .str 0 0, .str 0 0, .int .i64 t.n, .nilslice, .nilptr, .nilptr]) := rfl
    refine ret_res2 (id := nx) (lf := left) (cs := [.int .i64 13, .str 0 0, .str 0 0, .int .i64 t.n, .nilslice, .nilptr, .nilptr]) L2 s2 (.mk 13 (0, 0) (0, 0) t.n [] none [] _ _ _ .nil .none .nil (by intro _ h; cases h)) (Nat.le_refl _) hs0 hgn s.mem fun n d hput hrun => ?_
    have hg7 : hget (hset h2 nx (.cells [.int .i64 13, .str 0 0, .str 0 0, .int .i64 t.n, .nilslice, .nilptr, .nilptr])) nx = some (.cells [.int .i64 13, .str 0 0, .str 0 0, .int .i64 t.n, .nilslice, .nilptr, .nilptr]) := by rw [hget_set, if_pos rfl]
    repeat (first | simp -eta only [SY, ↓reduceIte, Nat.reduceEqDiff, Nat.reduceAdd, r_loadB _ _ ht.get, ht.c0, ht.c3, e21, e22, hb, hput, r_loadB _ _ hg7, hrun] | simp -eta only [KY, ↓reduceIte, Nat.reduceEqDiff])
  rw [if_neg h22]
  have e22 := eqI_ne h22
  by_cases h23 : t.kind = 23
  · rw [if_pos h23]
    have e23 : eqI t.kind 23 = true := by rw [h23]; rfl
    have hb : bld [.int .i64 0, .str 0 0, .str 0 0, .int .i64 0, .nilslice, .nilptr, .nilptr] [(0, 1, .int .i64 14), (2, 1, .str t.name.1 t.name.2)] = some (.agg [.int .i64 14, .str 0 0, .str t.name.1 t.name.2, .int .i64 0, .nilslice, .nilptr, .nilptr]) := rfl
    refine ret_res2 (id := nx) (lf := left) (cs := [.int .i64 14, .str 0 0, .str t.name.1 t.name.2, .int .i64 0, .nilslice, .nilptr, .nilptr]) L2 s2 (.mk 14 (0, 0) t.name 0 [] none [] _ _ _ .nil .none .nil (by intro _ h; cases h)) (Nat.le_refl _) hs0 hgn s.mem fun n d hput hrun => ?_
    have hg7 : hget (hset h2 nx (.cells [.int .i64 14, .str 0 0, .str t.name.1 t.name.2, .int .i64 0, .nilslice, .nilptr, .nilptr])) nx = some (.cells [.int .i64 14, .str 0 0, .str t.name.1 t.name.2, .int .i64 0, .nilslice, .nilptr, .nilptr]) := by rw [hget_set, if_pos rfl]
    repeat (first | simp -eta only [SY, ↓reduceIte, Nat.reduceEqDiff, Nat.reduceAdd, r_loadB _ _ ht.get, ht.c0, ht.c2, e21, e22, e23, hb, hput, r_loadB _ _ hg7, hrun] | simp -eta only [KY, ↓reduceIte, Nat.reduceEqDiff])
  rw [if_neg h23]
  have e23 := eqI_ne h23
  by_cases h25 : t.kind = 25
  · rw [if_pos h25]
    have e25 : eqI t.kind 25 = true := by rw [h25]; rfl
    have hA := all_ok hev hle s2 ht.kids he
    repeat (first | simp -eta only [SY, ↓reduceIte, Nat.reduceEqDiff, Nat.reduceAdd, r_loadB _ _ ht.get, ht.c0, ht.c4, e21, e22, e23, e25] | simp -eta only [KY, ↓reduceIte, Nat.reduceEqDiff])
    cases hr : allF (fun l t => evalF M.lets fuel l t env) left t.kids with
    | err e1 l1 =>
      rw [hr] at hA
      obtain ⟨h', nx', σ', L1, s1', hrun⟩ := hA
      exact ⟨h', nx', σ', L2.trans L1, s1', Ev.callPan (c := fun n d => CN n d) (kp := fun _ _ v h n => some (CRes.pan v h n)) hrun (Ev.some _)⟩
    | ok vs l =>
      rw [hr] at hA
      obtain ⟨h', nx', σ', ks', L1, s1', hrun, hvs⟩ := hA
      refine Fin.map (fun c hc => Ev.call hrun hc) ?_
      have hb : bld [.int .i64 0, .str 0 0, .str 0 0, .int .i64 0, .nilslice, .nilptr, .nilptr] [(0, 1, .int .i64 16), (4, 1, ks')] = some (.agg [.int .i64 16, .str 0 0, .str 0 0, .int .i64 0, ks', .nilptr, .nilptr]) := by
        rcases rdvs_one hvs with rfl | ⟨_, _, _, _, _, rfl⟩ <;> rfl
      refine ret_res2 (id := nx) (lf := l) (cs := [.int .i64 16, .str 0 0, .str 0 0, .int .i64 0, ks', .nilptr, .nilptr]) (L2.trans L1) s1' (.mk 16 (0, 0) (0, 0) 0 vs none [] _ _ _ hvs .none .nil (by intro _ h; cases h)) (Nat.le_refl _) ((L1.sold nx (by omega)).trans hs0) ((L1.old nx (by omega) (by omega)).trans hgn) s.mem fun n d hput hrun => ?_
      have hg7 : hget (hset h' nx (.cells [.int .i64 16, .str 0 0, .str 0 0, .int .i64 0, ks', .nilptr, .nilptr])) nx = some (.cells [.int .i64 16, .str 0 0, .str 0 0, .int .i64 0, ks', .nilptr, .nilptr]) := by rw [hget_set, if_pos rfl]
      repeat (first | simp -eta only [SY, ↓reduceIte, Nat.reduceEqDiff, Nat.reduceAdd, hb, hput, r_loadB _ _ hg7, hrun] | simp -eta only [KY, ↓reduceIte, Nat.reduceEqDiff])
  rw [if_neg h25]
  have e25 := eqI_ne h25
  by_cases h24 : t.kind = 24
  · rw [if_pos h24]
    have e24 : eqI t.kind 24 = true := by rw [h24]; rfl
    have hle17 : nx + 1 + 9 ≤ nx + 1 + 9 + 17 := by omega
    have s17 := s2.more hle17
    have L17 := s2.mem.more hle17
    have hA := all_ok hev hle s17 ht.kids he
    repeat (first | simp -eta only [SY, ↓reduceIte, Nat.reduceEqDiff, Nat.reduceAdd, r_loadB _ _ ht.get, ht.c0, ht.c4, e21, e22, e23, e25, e24] | simp -eta only [KY, ↓reduceIte, Nat.reduceEqDiff])
    cases hr : allF (fun l t => evalF M.lets fuel l t env) left t.kids with
    | err e1 l1 =>
      rw [hr] at hA
      obtain ⟨h', nx', σ', L1, s1', hrun⟩ := hA
      refine ⟨h', nx', σ', (L2.trans L17).trans L1, s1', ?_⟩
      refine Ev.callPan hrun ?_
      refine Ev.pure fun n d => ?_
      repeat (first | simp -eta only [SY, ↓reduceIte, Nat.reduceEqDiff, Nat.reduceAdd, r_loadB _ _ ht.get, ht.c1, ht.c2] | simp -eta only [KY, ↓reduceIte, Nat.reduceEqDiff])
    | ok vs l =>
      rw [hr] at hA
      obtain ⟨h', nx', σ', ks', L1, s1', hrun, hvs⟩ := hA
      refine Fin.map (fun c hc => Ev.call hrun hc) ?_
      obtain ⟨cs', kst', ht'⟩ := rdp_at s1'.mem (hp.mono L1.sle)
      have hb : bld [.int .i64 0, .str 0 0, .str 0 0, .int .i64 0, .nilslice, .nilptr, .nilptr] [(0, 1, .int .i64 15), (1, 1, .str t.pkg.1 t.pkg.2), (2, 1, .str t.name.1 t.name.2), (4, 1, ks')] = some (.agg [.int .i64 15, .str t.pkg.1 t.pkg.2, .str t.name.1 t.name.2, .int .i64 0, ks', .nilptr, .nilptr]) := by
        rcases rdvs_one hvs with rfl | ⟨_, _, _, _, _, rfl⟩ <;> rfl
      have L12 := L17.trans L1
      refine ret_res2 (id := nx) (lf := l) (cs := [.int .i64 15, .str t.pkg.1 t.pkg.2, .str t.name.1 t.name.2, .int .i64 0, ks', .nilptr, .nilptr]) (L2.trans L12) s1' (.mk 15 t.pkg t.name 0 vs none [] _ _ _ hvs .none .nil (by intro _ h; cases h)) (Nat.le_refl _) ((L12.sold nx (by omega)).trans hs0) ((L12.old nx (by omega) (by omega)).trans hgn) s.mem fun n d hput hrun => ?_
      have hg7 : hget (hset h' nx (.cells [.int .i64 15, .str t.pkg.1 t.pkg.2, .str t.name.1 t.name.2, .int .i64 0, ks', .nilptr, .nilptr])) nx = some (.cells [.int .i64 15, .str t.pkg.1 t.pkg.2, .str t.name.1 t.name.2, .int .i64 0, ks', .nilptr, .nilptr]) := by rw [hget_set, if_pos rfl]
      repeat (first | simp -eta only [SY, ↓reduceIte, Nat.reduceEqDiff, Nat.reduceAdd, r_loadB _ _ ht.get, ht.c1, ht.c2, r_loadB _ _ ht'.get, ht'.c1, ht'.c2, hb, hput, r_loadB _ _ hg7, hrun] | simp -eta only [KY, ↓reduceIte, Nat.reduceEqDiff])
  rw [if_neg h24]
  have e24 := eqI_ne h24
  by_cases h26 : t.kind = 26
  · rw [if_pos h26]
    have e26 : eqI t.kind 26 = true := by rw [h26]; rfl
    have hb : bld [.int .i64 0, .str 0 0, .str 0 0, .int .i64 0, .nilslice, .nilptr, .nilptr] [(0, 1, .int .i64 11), (5, 1, .ptr b o), (6, 1, e)] = some (.agg [.int .i64 11, .str 0 0, .str 0 0, .int .i64 0, .nilslice, .ptr b o, e]) := by
      rcases rde_one he with rfl | ⟨_, rfl⟩ <;> rfl
    refine ret_res2 (id := nx) (lf := left) (cs := [.int .i64 11, .str 0 0, .str 0 0, .int .i64 0, .nilslice, .ptr b o, e]) L2 s2 (.mk 11 (0, 0) (0, 0) 0 [] (some t) env _ _ _ .nil (.some t b o hp) he ?_) (Nat.le_refl _) hs0 hgn s.mem fun n d hput hrun => ?_
    · intro q hq hnil
      cases hq
      unfold fits at hfit
      rw [if_pos h26, hnil] at hfit
      cases hfit
    have hg7 : hget (hset h2 nx (.cells [.int .i64 11, .str 0 0, .str 0 0, .int .i64 0, .nilslice, .ptr b o, e])) nx = some (.cells [.int .i64 11, .str 0 0, .str 0 0, .int .i64 0, .nilslice, .ptr b o, e]) := by rw [hget_set, if_pos rfl]
    repeat (first | simp -eta only [SY, ↓reduceIte, Nat.reduceEqDiff, Nat.reduceAdd, r_loadB _ _ ht.get, ht.c0, e21, e22, e23, e25, e24, e26, hb, hput, r_loadB _ _ hg7, hrun] | simp -eta only [KY, ↓reduceIte, Nat.reduceEqDiff])
  rw [if_neg h26]
  have e26 := eqI_ne h26
  by_cases h27 : t.kind = 27
  · rw [if_pos h27]
    have e27 : eqI t.kind 27 = true := by rw [h27]; rfl
    obtain ⟨t0, t1, r, htk⟩ : ∃ t0 t1 r, t.kids = t0 :: t1 :: r := by
      unfold fits at hfit
      rw [if_neg h26, if_neg (by omega), if_neg (by omega), if_pos h27] at hfit
      match t.kids, hfit with
      | a :: c :: l, _ => exact ⟨a, c, l, rfl⟩
    simp only [htk]
    repeat (first | simp -eta only [SY, ↓reduceIte, Nat.reduceEqDiff, Nat.reduceAdd, r_loadB _ _ ht.get, ht.c0, e21, e22, e23, e25, e24, e26, e27] | simp -eta only [KY, ↓reduceIte, Nat.reduceEqDiff])
    exact hlast (apply_ok hev hle htk s2 hp he)
  rw [if_neg h27]
  have e27 := eqI_ne h27
  by_cases h28 : t.kind = 28
  · rw [if_pos h28]
    have e28 : eqI t.kind 28 = true := by rw [h28]; rfl
    obtain ⟨t0, t1, r, htk⟩ : ∃ t0 t1 r, t.kids = t0 :: t1 :: r := by
      unfold fits at hfit
      rw [if_neg h26, if_neg (by omega), if_neg (by omega), if_neg h27, if_pos h28] at hfit
      match t.kids, hfit with
      | a :: c :: l, _ => exact ⟨a, c, l, rfl⟩
    simp only [htk]
    repeat (first | simp -eta only [SY, ↓reduceIte, Nat.reduceEqDiff, Nat.reduceAdd, r_loadB _ _ ht.get, ht.c0, e21, e22, e23, e25, e24, e26, e27, e28] | simp -eta only [KY, ↓reduceIte, Nat.reduceEqDiff])
    exact hlast (let_ok hev hle htk s2 hp he)
  rw [if_neg h28]
  have e28 := eqI_ne h28
  by_cases h29 : t.kind = 29
  · rw [if_pos h29]
    have e29 : eqI t.kind 29 = true := by rw [h29]; rfl
    obtain ⟨t0, r, htk⟩ : ∃ t0 r, t.kids = t0 :: r := by
      unfold fits at hfit
      rw [if_neg h26, if_neg (by omega), if_pos h29] at hfit
      match t.kids, hfit with
      | a :: l, _ => exact ⟨a, l, rfl⟩
    simp only [htk]
    repeat (first | simp -eta only [SY, ↓reduceIte, Nat.reduceEqDiff, Nat.reduceAdd, r_loadB _ _ ht.get, ht.c0, e21, e22, e23, e25, e24, e26, e27, e28, e29] | simp -eta only [KY, ↓reduceIte, Nat.reduceEqDiff])
    exact hlast (match_ok hev hle htk s2 hp he)
  rw [if_neg h29]
  have e29 := eqI_ne h29
  by_cases h30 : t.kind = 30
  · rw [if_pos h30]
    have e30 : eqI t.kind 30 = true := by rw [h30]; rfl
    obtain ⟨t0, r, htk⟩ : ∃ t0 r, t.kids = t0 :: r := by
      unfold fits at hfit
      rw [if_neg h26, if_pos h30] at hfit
      match t.kids, hfit with
      | a :: l, _ => exact ⟨a, l, rfl⟩
    obtain ⟨pb, po, cap, hkse, hp0, hblt0, hbig⟩ := rdks_at ht.kids (i := 0) htk
    have i0 : idx 5 ks (.int .i64 0) = some (.ptr pb (po + 0 * 5)) := by rw [hkse]; exact (r_idx 5 pb po _ 5 cap .i64 0).trans (by rw [hblt0]; rfl)
    simp only [htk]
    repeat (first | simp -eta only [SY, ↓reduceIte, Nat.reduceEqDiff, Nat.reduceAdd, r_loadB _ _ ht.get, ht.c0, ht.c4, e21, e22, e23, e25, e24, e26, e27, e28, e29, e30, i0] | simp -eta only [KY, ↓reduceIte, Nat.reduceEqDiff])
    exact hlast (hev left hle t0 env _ _ _ pb (po + 0 * 5) e s2 hp0 he)
  rw [if_neg h30]
  have e30 := eqI_ne h30
  repeat (first | simp -eta only [SY, ↓reduceIte, Nat.reduceEqDiff, Nat.reduceAdd, r_loadB _ _ ht.get, ht.c0, ht.c4, e21, e22, e23, e25, e24, e26, e27, e28, e29, e30] | simp -eta only [KY, ↓reduceIte, Nat.reduceEqDiff])
  exact hlast (stuck_fin s2)
theorem eval_all : ∀ fuel, EvOk M fuel := by
  intro fuel
  induction fuel with
  | zero =>
    intro left hle t env h nx σ b o e s hp he
    have : left = 0 := by omega
    subst this
    exact eval_zero s hp
  | succ f ih =>
    intro left hle t env h nx σ b o e s hp he
    cases left with
    | zero => exact eval_zero s hp
    | succ l => exact eval_succ ih (by omega) s hp he
/-- an evaluation, whatever it is given -/
theorem eval_ok {left : Nat} {t : Tm} {env : List Fr} {h : Heap} {nx : Nat} {σ : Sto} {b o : Nat} {e : AV} (s : St M h nx σ left) (hp : RdP σ t b o) (he : RdE σ env e) :
    Fin M h nx σ (fun n d => CN n d 15 [.ptr M.mb 0, .ptr b o, e] h nx) (evalN M.lets left t env) := eval_all left left (Nat.le_refl _) t env h nx σ b o e s hp he
end
end Go.Proofs.YtaajedkbaahgfaaGreatDoor
