/-
Texts of the proof, joined: AESeq, AECode, AECall, AECall2, AESpec, AELocal, AEDraw0, AEDraw1, AEDraw2, AEDraw3.
-/
import Derived.Test.YtaajedkbaahgfaaGreatDoorA3
import Derived.Tactics
import Derived.Orders
import Derived.Recover
import Derived.Lib.Bytealg
set_option linter.unusedSimpArgs false
set_option linter.unusedVariables false
set_option linter.unusedSectionVars false
/-
A symbolic executor: regions in the order of the text.
-/
namespace Go.AE

/-- deferred calls -/
inductive DR (φ : Ph) (e : Syms) : Defs → List Deferred → Prop where
  | nil : DR φ e [] []
  | cons (g : FuncId) (l : List AV) (df : Defs) (d : Deferred) (C : Array Value) (ds : List Deferred) (ht : d.target = .fn (.func g) C) (ha : VRL φ e l (d.args ++ C).toList) (t : DR φ e df ds) : DR φ e ((g, l) :: df) (d :: ds)
theorem DR.mono {φ φ' : Ph} {e : Syms} (hle : Phi.le φ φ') : ∀ {df : Defs} {ds : List Deferred}, DR φ e df ds → DR φ' e df ds
  | _, _, .nil => .nil
  | _, _, .cons g l df d C ds ht ha t => .cons g l df d C ds ht (ha.mono hle) (t.mono hle)

/-- what is behind some code -/
structure PS (G : Nat) (φ : Ph) (e : Syms) (h : Heap) (nx : Nat) (w : World) (φ' : Ph) (h' : Heap) (nx' : Nat) (w' : World) : Prop where
  ext : Ext φ φ' nx
  nx : nx ≤ nx'
  fr : Frame φ h w φ' h' w'
  rw : RW G φ' e h' nx' w'

inductive ExR (φ : Ph) (e : Syms) : Ex → Exit → Prop where
  | normal : ExR φ e .normal .normal
  | exit (id : Nat) : ExR φ e (.exit id) (.exit id)
  | ret : ExR φ e .ret .ret
  | pan (v : AV) (u : Value) (h : VR φ e v u) : ExR φ e (.pan v) (.panic [{ v := u, recovered := false }])

/-- a frame's temporaries, where no region has any of its own -/
abbrev TR (φ : Ph) (e : Syms) (N dp L : Nat) (tm : TM) (A : Act) : Prop := AR φ e N ⟨dp, L, [], 0⟩ [] tm A

def OutR (G N dp L : Nat) (φ : Ph) (e : Syms) (h : Heap) (nx : Nat) (w : World) (out : Out) (ex : Exit) (A' : Act) (w' : World) : Prop :=
  ∃ x tm df h' nx' φ', out = .mk x tm df h' nx' ∧ PS G φ e h nx w φ' h' nx' w' ∧ ExR φ' e x ex ∧ TR φ' e N dp L tm A' ∧ DR φ' e df A'.defers

section
variable {P : Program} {cx : Cx} {φ φ' φ2 : Ph} {e : Syms} {N dp L : Nat} {nv : Env} {tm : TM} {df : Defs} {A : Act} {h h' h2 : Heap} {nx nx' nx2 : Nat} {w w' w2 : World} {G : Nat}

theorem RW.le_of_ext (hR : RW G φ e h nx w) (hx : Ext φ φ' nx) : Phi.le φ φ' := hx.le hR.dom
theorem PS.refl (hR : RW G φ e h nx w) : PS G φ e h nx w φ h nx w := ⟨Ext.refl _ _, Nat.le_refl _, Frame.refl _ _ _, hR⟩
theorem PS.trans (a : PS G φ e h nx w φ' h' nx' w') (b : PS G φ' e h' nx' w' φ2 h2 nx2 w2) : PS G φ e h nx w φ2 h2 nx2 w2 :=
  ⟨a.ext.trans b.ext a.nx, Nat.le_trans a.nx b.nx, a.fr.trans b.fr, b.rw⟩
theorem Post.ps (p : Post G φ e h nx w nx φ' h' nx' w') : PS G φ e h nx w φ' h' nx' w' := ⟨fun b hb => p.ext b hb (Nat.ne_of_lt hb), p.nx, p.fr, p.rw⟩
theorem PS.post (hR : RW G φ e h nx w) (p : PS G φ e h nx w φ' h' nx' w') : Post G φ e h nx w nx φ' h' nx' w' := ⟨fun b hb _ => p.ext b hb, hR.le_of_ext p.ext, p.nx, p.fr, p.rw⟩
theorem OutR.trans {out : Out} {ex : Exit} {A' : Act} (a : PS G φ e h nx w φ' h' nx' w') (b : OutR G N dp L φ' e h' nx' w' out ex A' w2) : OutR G N dp L φ e h nx w out ex A' w2 := by
  obtain ⟨x, tm, df, h2, nx2, φ2, h3, h4, h5⟩ := b
  exact ⟨x, tm, df, h2, nx2, φ2, h3, a.trans h4, h5⟩

theorem AR.tr (hA : AR φ e N cx nv tm A) : TR φ e N cx.dp cx.L tm A := ⟨hA.size, hA.dep, hA.val, hA.off, fun t j v hj _ => by cases hj⟩

/-- the temporaries of the region's own list are those of the bits -/
def LocIn (cx : Cx) : Prop := ∀ t j, findT t cx.loc 0 = some j → hasBit cx.L t = true

theorem getD_put (A : Act) (d t : Tmp) (u : Value) : (A.put (some d) u).tmps.getD t undef = if t = d ∧ d < A.tmps.size then u else A.tmps.getD t undef := by
  simp only [Act.put, Array.getD_eq_getD_getElem?, Array.getElem?_setIfInBounds]
  by_cases htd : t = d
  · subst htd
    by_cases hlt : t < A.tmps.size <;> simp [hlt]
  · simp [htd, Ne.symm htd]

/-- a result is put where it belongs -/
theorem put_ok {k0 : CK} {g0 : CG} {d : Option Tmp} {v : AV} {u : Value} {K : KF} {out : Out} (hd : ∀ d', d = some d' → Nat.blt d' N = true) (hA : AR φ e N cx nv tm A) (hloc : LocIn cx) (hv : VR φ e v u)
    (hrun : (dcOf (cDst N cx d k0 g0).d).run v nv tm df h nx K = some out) :
    ∃ nv' tm', K nv' tm' df h nx = some out ∧ AR φ e N (locOf cx d) nv' tm' (A.put d u) ∧ LocIn (locOf cx d) := by
  cases d with
  | none => exact ⟨nv, tm, hrun, hA, hloc⟩
  | some d =>
    have hlt := hd d rfl
    · simp only [cDst, hlt, sel_true] at hrun
      have hlt := natBlt hlt
      have hds : d < A.tmps.size := by rw [hA.size]; exact hlt
      have hdp : d < 2 ^ cx.dp := Nat.lt_of_lt_of_le hlt hA.dep
      cases hb : hasBit cx.L d with
      | true =>
        rw [hb] at hrun
        refine ⟨v :: nv, tm, hrun, ⟨?_, ?_, ?_, ?_, ?_⟩, ?_⟩
        · simp [Act.put, hA.size]
        · simp only [locOf, hb]; exact hA.dep
        · simp only [locOf, hb]
          intro t x ht hx
          rw [getD_put]
          by_cases htd : t = d
          · subst htd
            rw [hA.off t ht hb] at hx; cases hx
          · rw [if_neg (by simp [htd])]
            exact hA.val t x ht hx
        · simp only [locOf, hb]; exact hA.off
        · simp only [locOf, hb]
          intro t j x hj hx
          rw [getD_put]
          by_cases htd : t = d
          · subst htd
            change findT t (t :: cx.loc) 0 = some j at hj
            rw [findT_cons_self] at hj; cases hj
            cases hx
            rw [if_pos ⟨rfl, hds⟩]; exact hv
          · rw [if_neg (by simp [htd])]
            obtain ⟨m, rfl, hm⟩ := findT_cons_ne (Ne.symm htd) hj
            exact hA.nv t m x hm (by simpa using hx)
        · simp only [locOf, hb]
          intro t j hj
          by_cases htd : t = d
          · subst htd; exact hb
          · obtain ⟨m, _, hm⟩ := findT_cons_ne (Ne.symm htd) hj
            exact hloc t m hm
      | false =>
        rw [hb] at hrun
        refine ⟨nv, tset cx.dp d v tm, hrun, ⟨?_, ?_, ?_, ?_, ?_⟩, ?_⟩
        · simp [Act.put, hA.size]
        · simp only [locOf, hb]; exact hA.dep
        · simp only [locOf, hb]
          intro t x ht hx
          rw [getD_put]
          by_cases htd : t = d
          · subst htd
            change tget cx.dp t (tset cx.dp t v tm) = some x at hx
            rw [tget_tset] at hx; cases hx
            rw [if_pos ⟨rfl, hds⟩]; exact hv
          · rw [if_neg (by simp [htd])]
            change tget cx.dp t (tset cx.dp d v tm) = some x at hx
            rw [tget_tset_ne cx.dp v tm ht hdp htd] at hx
            exact hA.val t x ht hx
        · simp only [locOf, hb]
          intro t ht hbt
          have htd : t ≠ d := by intro e1; subst e1; change hasBit cx.L t = true at hbt; rw [hb] at hbt; cases hbt
          change tget cx.dp t (tset cx.dp d v tm) = none
          rw [tget_tset_ne cx.dp v tm ht hdp htd]
          exact hA.off t ht hbt
        · simp only [locOf, hb]
          intro t j x hj hx
          have htd : t ≠ d := by
            intro e1; subst e1
            have := hloc t j hj
            rw [hb] at this; cases this
          rw [getD_put, if_neg (by simp [htd])]
          exact hA.nv t j x hj hx
        · simp only [locOf, hb]; exact hloc

/-- a guard is asked -/
theorem guard_ok (hgl : ∀ g, g < cx.G → ∃ S, φ g = some ⟨g, 0, S⟩) {ops : Array Oper} {o : Oper} (hA : AR φ e N cx nv tm A) {b : Bool} (hw : wantG (cGuard cx ops.toList o.guard) nv tm = some b) : Region.wanted o (yielded ops A.tmps) = b := by
  unfold cGuard at hw
  unfold Region.wanted
  split at hw
  · rename_i hg
    cases hw
    rw [hg]
  · rename_i q hg
    obtain ⟨j, want⟩ := q
    rw [hg]
    show (yielded ops A.tmps j == some want) = b
    simp only [lget_eq, Array.getElem?_toList] at hw
    unfold cGuardO at hw
    cases ho : ops[j]? with
    | none =>
      rw [ho] at hw
      cases hw
      simp [yielded, ho]
    | some oj =>
      rw [ho] at hw
      simp only at hw
      cases hd : oj.dst with
      | none =>
        rw [hd] at hw
        cases hw
        simp [yielded, ho, hd]
      | some d =>
        rw [hd] at hw
        obtain ⟨v, hv, h1⟩ := ob_some (x := (cO cx (.tmp d)).run nv tm) hw
        have hr := cO_ok hA hgl hv
        change VR φ e v (A.tmps.getD d undef) at hr
        simp only [yielded, ho, hd, Option.bind_some]
        unfold wantV at h1
        split at h1
        · rename_i p
          cases h1
          have hp := hr.inv_bool
          rw [Array.getD_eq_getD_getElem?] at hp
          cases hx : A.tmps[d]? with
          | none => rw [hx] at hp; cases hp
          | some x =>
            rw [hx] at hp
            simp at hp
            subst hp
            cases p <;> cases want <;> rfl
        · cases h1
          obtain ⟨a, ha, hal⟩ := hr.inv_tuple
          rw [Array.getD_eq_getD_getElem?] at ha
          cases hx : A.tmps[d]? with
          | none => rfl
          | some x =>
            rw [hx] at ha
            simp at ha
            subst ha
            rfl
        · cases h1

theorem Act.put_defers (A : Act) (d : Option Tmp) (u : Value) : (A.put d u).defers = A.defers := by cases d <;> rfl

/-- a list of operations, each of them done -/
def wpL (P : Program) (ops : Array Oper) (Q : Exit → Act → World → Prop) : List Oper → Act → World → Prop
  | [], a, w => Q .normal a w
  | o :: rest, a, w => if Region.wanted o (yielded ops a.tmps) then o.wp P a w (wpL P ops Q rest) Q else wpL P ops Q rest (a.put o.dst undef) w
theorem wpL_list {ops : Array Oper} {Q : Exit → Act → World → Prop} : ∀ {l : List Oper} {a : Act} {w : World}, wpL P ops Q l a w → wpList P ops Q l a w := by
  intro l
  induction l with
  | nil => intro a w h; exact h
  | cons o l ih =>
    intro a w h
    unfold wpL at h
    unfold wpList
    split
    · rename_i hw
      rw [if_pos hw] at h
      exact .inl (Oper.wp_mono (fun a w h => ih h) h)
    · rename_i hw
      rw [if_neg hw] at h
      exact ih h

theorem seqL_ok {ops : Array Oper} {call : CallF} (hcall : CallOk P call) : ∀ (l : List Oper) {cx : Cx} {nv : Env} {tm : TM} {df : Defs} {h : Heap} {nx : Nat} {A : Act} {w : World} {φ : Ph} {out : Out},
    cx.G ≤ P.globals.size → (ocList (cSeq P N ops.toList l cx)).run call nv tm df h nx = some out → AR φ e N cx nv tm A → LocIn cx → DR φ e df A.defers → RW P.globals.size φ e h nx w →
      ∀ (Q : Exit → Act → World → Prop), (∀ ex A' w', OutR P.globals.size N cx.dp cx.L φ e h nx w out ex A' w' → Q ex A' w') → LetsA Q → wpL P ops Q l A w := by
  intro l
  induction l with
  | nil =>
    intro cx nv tm df h nx A w φ out hG hrun hA hloc hD hR Q hQ hlet
    cases hrun
    exact hQ _ _ _ ⟨.normal, tm, df, h, nx, φ, rfl, PS.refl hR, .normal, hA.tr, hD⟩
  | cons o l ih =>
    intro cx nv tm df h nx A w φ out hG hrun hA hloc hD hR Q hQ hlet
    have hgl : ∀ g, g < cx.G → ∃ S, φ g = some ⟨g, 0, S⟩ := fun g hg => hR.gl g (Nat.lt_of_lt_of_le hg hG)
    change (scOf (cOp P N cx ops.toList o)).go call nv tm df h nx ((ocList (cSeq P N ops.toList l (locOf cx o.dst))).run call) = some out at hrun
    have hcx : (locOf cx o.dst).dp = cx.dp ∧ (locOf cx o.dst).L = cx.L ∧ (locOf cx o.dst).G = cx.G := by
      cases o.dst with
      | none => exact ⟨rfl, rfl, rfl⟩
      | some d => simp only [locOf]; cases hasBit cx.L d <;> exact ⟨rfl, rfl, rfl⟩
    -- what follows, from a state that stands for the world
    have next : ∀ {nv' : Env} {tm' : TM} {df' : Defs} {h' : Heap} {nx' : Nat} {A' : Act} {w' : World} {φ' : Ph},
        (ocList (cSeq P N ops.toList l (locOf cx o.dst))).run call nv' tm' df' h' nx' = some out → AR φ' e N (locOf cx o.dst) nv' tm' A' → LocIn (locOf cx o.dst) → DR φ' e df' A'.defers →
        PS P.globals.size φ e h nx w φ' h' nx' w' → wpL P ops Q l A' w' := by
      intro nv' tm' df' h' nx' A' w' φ' h1 h2 h3 h4 h5
      refine ih (by rw [hcx.2.2]; exact hG) h1 h2 h3 h4 h5.rw Q (fun ex A2 w2 h6 => hQ ex A2 w2 ?_) hlet
      rw [hcx.1, hcx.2.1] at h6
      exact h6.trans h5
    have hkind := cKind_ok (cx := cx) hG o
    -- nothing is done
    have skip : ∀ (hd : ∀ d', o.dst = some d' → Nat.blt d' N = true), (dcOf (cOp P N cx ops.toList o).d).run (.tuple []) nv tm df h nx ((ocList (cSeq P N ops.toList l (locOf cx o.dst))).run call) = some out →
        wpL P ops Q l (A.put o.dst undef) w := by
      intro hd h1
      obtain ⟨nv', tm', h2, h3, h4⟩ := put_ok (k0 := cKind P cx o.op) (g0 := cGuard cx ops.toList o.guard) (d := o.dst) hd hA hloc VR.undef' h1
      exact next h2 h3 h4 (by rw [Act.put_defers]; exact hD) (PS.refl hR)
    -- the operation is done
    have doit : ∀ (hd : ∀ d', o.dst = some d' → Nat.blt d' N = true) (hk : (cOp P N cx ops.toList o).k = cKind P cx o.op), (scOp (dcOf (cOp P N cx ops.toList o).d) (cOp P N cx ops.toList o).k).go call nv tm df h nx ((ocList (cSeq P N ops.toList l (locOf cx o.dst))).run call) = some out →
        o.wp P A w (wpL P ops Q l) Q := by
      intro hd hk h1
      have put : ∀ {v : AV} {u : Value} {h' : Heap} {nx' : Nat} {w' : World} {φ' : Ph} {df' : Defs} {A' : Act}, (dcOf (cOp P N cx ops.toList o).d).run v nv tm df' h' nx' ((ocList (cSeq P N ops.toList l (locOf cx o.dst))).run call) = some out →
          PS P.globals.size φ e h nx w φ' h' nx' w' → VR φ' e v u → A'.tmps = A.tmps → DR φ' e df' A'.defers → wpL P ops Q l (A'.put o.dst u) w' := by
        intro v u h' nx' w' φ' df' A' h2 h3 h4 h5 h6
        have hA' : AR φ' e N cx nv tm A' := by
          have := hA.mono (hR.le_of_ext h3.ext)
          exact ⟨by rw [h5]; exact this.size, this.dep, by rw [h5]; exact this.val, this.off, by rw [h5]; exact this.nv⟩
        obtain ⟨nv', tm', h7, h8, h9⟩ := put_ok (k0 := cKind P cx o.op) (g0 := cGuard cx ops.toList o.guard) (d := o.dst) hd hA' hloc h4 h2
        exact next h7 h8 h9 (by rw [Act.put_defers]; exact h6) h3
      have hle : ∀ {φ' : Ph} {h' : Heap} {nx' : Nat} {w' : World}, PS P.globals.size φ e h nx w φ' h' nx' w' → DR φ' e df A.defers := fun h3 => hD.mono (hR.le_of_ext h3.ext)
      unfold Oper.wp
      rw [hk] at h1
      cases hc : cKind P cx o.op with
      | rd f mem =>
        rw [hc] at h1 hkind
        obtain ⟨v, hv, h2⟩ := ob_some (x := f.run nv tm h) h1
        obtain ⟨u, hu, hr⟩ := hkind hA hR.rv hv
        rw [hu, Oper.upon_value]
        exact put h2 (PS.refl hR) hr rfl hD
      | al f =>
        rw [hc] at h1 hkind
        obtain ⟨r, hv, h2⟩ := ob_some (x := f.run nv tm nx) h1
        have h3 := hok nx
        have h4 := h2
        have hid : φ nx = none := by
          cases hq : φ nx with
          | none => rfl
          | some K => have := (hR.dom nx K hq).1; omega
        obtain ⟨u, w', K, hu, hf, hKB, hr, hB⟩ := hkind hA hR.rv hid h3 hv
        rw [hu, Oper.upon_value]
        obtain ⟨h5, h6⟩ := hR.fresh (nx' := Nat.succ nx) hid h3 (by omega) (by omega) hf hKB hB
        have hps : PS P.globals.size φ e h nx w (upd φ nx K) (hset h nx r.2) (Nat.succ nx) w' := ⟨fun b hb => upd_ne _ _ (Nat.ne_of_lt hb), Nat.le_succ nx, h6, h5⟩
        exact put h4 hps hr rfl (hle hps)
      | ac f =>
        rw [hc] at h1 hkind
        obtain ⟨r, hv, h2⟩ := ob_some (x := f.run call nv tm h nx nx) h1
        have hid : φ nx = none := by
          cases hq : φ nx with
          | none => rfl
          | some K => have := (hR.dom nx K hq).1; omega
        refine hkind hcall hA hR hid (Nat.le_refl _) hv _ Q ?_ ?_ hlet
        · rintro u w' ⟨av, φ', h', nx', rfl, hp, hr⟩
          exact put h2 hp.ps hr rfl (hle hp.ps)
        · rintro u w' ⟨av, φ', h', nx', rfl, hp, hr⟩
          cases h2
          exact hQ _ _ _ ⟨.pan av, tm, df, h', nx', φ', rfl, hp.ps, .pan _ _ hr, (hA.mono (hR.le_of_ext hp.ps.ext)).tr, hle hp.ps⟩
      | df f args =>
        rw [hc] at h1 hkind
        obtain ⟨c, ho, x, hcal, rfl, rfl⟩ := hkind
        obtain ⟨v, hv, h2⟩ := ob_some (x := (cO cx x).run nv tm) h1
        obtain ⟨g, first, cap, hq, h3⟩ := onFunc_some h2
        subst hq
        obtain ⟨al, hal, h4⟩ := ob_some (x := evL (cOs cx c.args.toList) nv tm) h3
        obtain ⟨F, C, hfe, hF, hC⟩ := (op_ok hG hA hR.rv hv).inv_func
        have hrun' : (execOp A.eval o).run P w = .ok (.defer { target := .fn (.func g) C, args := F ++ c.args.map A.eval }) w := by
          simp only [execOp, ho, resolve, hcal, hfe]
          rfl
        rw [hrun', Oper.upon_defer]
        refine put h4 (PS.refl hR) VR.undef' rfl (.cons g _ df _ C _ rfl ?_ hD)
        rw [lapp_eq, lapp_eq, Array.toList_append, Array.toList_append, Array.toList_map, List.append_assoc]
        exact hF.append ((opL_ok hG hA hR.rv hal).append hC)
      | rc => rw [hc] at h1; cases h1
      | no => rw [hc] at h1; cases h1
    -- together
    unfold wpL
    by_cases hd : ∀ d', o.dst = some d' → Nat.blt d' N = true
    · have hk : (cOp P N cx ops.toList o).k = cKind P cx o.op := by
        unfold cOp
        cases hdst : o.dst with
        | none => rfl
        | some d =>
          have := hd d hdst
          simp only [cDst, this, sel_true]
          cases hasBit cx.L d <;> rfl
      have hg : (cOp P N cx ops.toList o).g = cGuard cx ops.toList o.guard := by
        unfold cOp
        cases hdst : o.dst with
        | none => rfl
        | some d =>
          have := hd d hdst
          simp only [cDst, this, sel_true]
          cases hasBit cx.L d <;> rfl
      unfold scOf scG at hrun
      rw [hg] at hrun
      cases hgd : cGuard cx ops.toList o.guard with
      | yes =>
        rw [hgd] at hrun
        have := guard_ok hgl (ops := ops) (o := o) hA (b := true) (by rw [hgd]; rfl)
        rw [if_pos this]
        exact doit hd hk hrun
      | never =>
        rw [hgd] at hrun
        have := guard_ok hgl (ops := ops) (o := o) hA (b := false) (by rw [hgd]; rfl)
        rw [if_neg (by rw [this]; simp)]
        exact skip hd hrun
      | ask x want =>
        rw [hgd] at hrun
        obtain ⟨v, hv, h1⟩ := ob_some (x := x.run nv tm) hrun
        obtain ⟨b, hb, h2⟩ := ob_some (x := wantV want v) h1
        have := guard_ok hgl (ops := ops) (o := o) hA (b := b) (by rw [hgd]; show ob (x.run nv tm) (wantV want) = some b; rw [hv]; exact hb)
        cases b with
        | true =>
          rw [if_pos this]
          exact doit hd hk h2
        | false =>
          rw [if_neg (by rw [this]; simp)]
          exact skip hd h2
    · exfalso
      cases hdst : o.dst with
      | none => exact hd (fun d' h1 => by rw [hdst] at h1; cases h1)
      | some d =>
        cases hlt : Nat.blt d N with
        | true => exact hd (fun d' h1 => by rw [hdst] at h1; cases h1; exact hlt)
        | false =>
          have : cOp P N cx ops.toList o = ⟨.no, .none, .yes⟩ := by simp only [cOp, hdst, cDst, hlt, sel_false]
          rw [this] at hrun
          cases hrun

theorem seq_ok {ops : Array Oper} {call : CallF} (hcall : CallOk P call) (l : List Oper) {cx : Cx} {nv : Env} {tm : TM} {df : Defs} {h : Heap} {nx : Nat} {A : Act} {w : World} {φ : Ph} {out : Out}
    (hG : cx.G ≤ P.globals.size) (hrun : (ocList (cSeq P N ops.toList l cx)).run call nv tm df h nx = some out) (hA : AR φ e N cx nv tm A) (hloc : LocIn cx) (hD : DR φ e df A.defers) (hR : RW P.globals.size φ e h nx w)
    (Q : Exit → Act → World → Prop) (hQ : ∀ ex A' w', OutR P.globals.size N cx.dp cx.L φ e h nx w out ex A' w' → Q ex A' w') (hlet : LetsA Q) : wpList P ops Q l A w :=
  wpL_list (seqL_ok hcall l hG hrun hA hloc hD hR Q hQ hlet)
end
end Go.AE

/-
A symbolic executor: code.
-/
namespace Go.AE

section
variable {P : Program} {φ φ' φ2 : Ph} {e : Syms} {N dp L : Nat} {tm : TM} {df : Defs} {A : Act} {h h' h2 : Heap} {nx nx' nx2 : Nat} {w w' w2 : World} {G : Nat}

/-- a compiled code answers for its code -/
def CCOk (P : Program) (N dp L : Nat) (c : CC) (code : Code) : Prop :=
  ∀ {n : Nat} {call : CallF} {φ : Ph} {e : Syms} {h : Heap} {nx : Nat} {w : World} {tm : TM} {df : Defs} {A : Act} {out : Out},
    CallOk P call → TR φ e N dp L tm A → DR φ e df A.defers → RW P.globals.size φ e h nx w → c.run n call tm df h nx = some out →
      ∀ (Q : Exit → Act → World → Prop), (∀ ex A' w', OutR P.globals.size N dp L φ e h nx w out ex A' w' → Q ex A' w') → LetsA Q → code.wp P Q A w

theorem ccNo_ok (code : Code) : CCOk P N dp L ccNo code := by
  intro n call φ e h nx w tm df A out _ _ _ _ hv; cases hv
theorem ccSkip_ok : CCOk P N dp L ccSkip .skip := by
  intro n call φ e h nx w tm df A out _ hT hD hR hv Q hQ _
  cases hv
  exact wp_skip (hQ _ _ _ ⟨.normal, tm, df, h, nx, φ, rfl, PS.refl hR, .normal, hT, hD⟩)
theorem ccExit_ok (id : Nat) : CCOk P N dp L (ccExit id) (.exit id) := by
  intro n call φ e h nx w tm df A out _ hT hD hR hv Q hQ _
  cases hv
  exact wp_exit (hQ _ _ _ ⟨.exit id, tm, df, h, nx, φ, rfl, PS.refl hR, .exit id, hT, hD⟩)
theorem ccRet_ok : CCOk P N dp L ccRet .ret := by
  intro n call φ e h nx w tm df A out _ hT hD hR hv Q hQ _
  cases hv
  exact wp_ret (hQ _ _ _ ⟨.ret, tm, df, h, nx, φ, rfl, PS.refl hR, .ret, hT, hD⟩)

theorem ccSeq_ok {a b : CC} {x y : Code} (ha : CCOk P N dp L a x) (hb : CCOk P N dp L b y) : CCOk P N dp L (ccSeq a b) (.seq x y) := by
  intro n call φ e h nx w tm df A out hcall hT hD hR hv Q hQ hlet
  obtain ⟨o1, h1, h2⟩ := ob_some (x := a.run n call tm df h nx) hv
  refine wp_seq (ha hcall hT hD hR h1 _ ?_ (trivial))
  rintro ex A' w' ⟨x1, tm1, df1, h3, nx3, φ3, rfl, hps, hex, hT1, hD1⟩
  cases hex with
  | normal => exact hb hcall hT1 hD1 hps.rw h2 Q (fun ex A2 w2 h4 => hQ ex A2 w2 (h4.trans hps)) hlet
  | exit id => cases h2; exact hQ _ _ _ ⟨_, _, _, _, _, _, rfl, hps, .exit id, hT1, hD1⟩
  | ret => cases h2; exact hQ _ _ _ ⟨_, _, _, _, _, _, rfl, hps, .ret, hT1, hD1⟩
  | pan v u hu => cases h2; exact hQ _ _ _ ⟨_, _, _, _, _, _, rfl, hps, .pan v u hu, hT1, hD1⟩

theorem TR.any {G : Nat} (hT : TR φ e N dp L tm A) : AR φ e N ⟨dp, L, [], G⟩ [] tm A := ⟨hT.size, hT.dep, hT.val, hT.off, fun t j v hj _ => by cases hj⟩

theorem ccCond_ok {a b : CC} {x y : Code} {c : Operand} (ha : CCOk P N dp L a x) (hb : CCOk P N dp L b y) : CCOk P N dp L (ccCond (cO ⟨dp, L, [], P.globals.size⟩ c) a b) (.cond c x y) := by
  intro n call φ e h nx w tm df A out hcall hT hD hR hv Q hQ hlet
  obtain ⟨v, hc, h1⟩ := ob_some (x := (cO ⟨dp, L, [], P.globals.size⟩ c).run [] tm) hv
  obtain ⟨t, ht, h2⟩ := onBool_some h1
  subst ht
  have hce := (cO_ok hT.any (fun g hg => hR.gl g hg) hc).inv_bool
  refine wp_cond hce ?_
  cases t with
  | true => exact ha hcall hT hD hR h2 Q hQ hlet
  | false => exact hb hcall hT hD hR h2 Q hQ hlet

theorem ccBlock_ok {a : CC} {x : Code} {id : Nat} (ha : CCOk P N dp L a x) : CCOk P N dp L (ccBlock id a) (.block id x) := by
  intro n call φ e h nx w tm df A out hcall hT hD hR hv Q hQ hlet
  obtain ⟨o1, h1, h2⟩ := ob_some (x := a.run n call tm df h nx) hv
  refine wp_block (ha hcall hT hD hR h1 _ ?_ (trivial))
  rintro ex A' w' ⟨x1, tm1, df1, h3, nx3, φ3, rfl, hps, hex, hT1, hD1⟩
  cases h2
  cases hex with
  | normal => exact hQ _ _ _ ⟨_, _, _, _, _, _, rfl, hps, .normal, hT1, hD1⟩
  | ret => exact hQ _ _ _ ⟨_, _, _, _, _, _, rfl, hps, .ret, hT1, hD1⟩
  | pan v u hu => exact hQ _ _ _ ⟨_, _, _, _, _, _, rfl, hps, .pan v u hu, hT1, hD1⟩
  | exit i =>
    simp only [Exit.inBlock]
    by_cases hi : i = id
    · subst hi
      rw [if_pos rfl]
      refine hQ _ _ _ ⟨_, _, _, _, _, _, rfl, hps, ?_, hT1, hD1⟩
      have : leaveE i (.exit i) = .normal := by
        show sel (Nat.beq i i) Ex.normal (.exit i) = .normal
        rw [Nat.beq_refl]
      rw [this]
      exact .normal
    · rw [if_neg hi]
      refine hQ _ _ _ ⟨_, _, _, _, _, _, rfl, hps, ?_, hT1, hD1⟩
      have : leaveE id (.exit i) = .exit i := by
        show sel (Nat.beq i id) Ex.normal (.exit i) = .exit i
        cases hb : Nat.beq i id with
        | true => exact absurd (natBeq hb) hi
        | false => rfl
      rw [this]
      exact .exit i

theorem least {p : Nat → Prop} (h : ∃ k, p k) : ∃ k, p k ∧ ∀ j, j < k → ¬ p j := by
  obtain ⟨k, hk⟩ := h
  induction k using Nat.strongRecOn with
  | _ k ih =>
    by_cases hj : ∃ j, j < k ∧ p j
    · obtain ⟨j, hjk, hp⟩ := hj; exact ih j hjk hp
    · exact ⟨k, hk, fun j hjk hp => hj ⟨j, hjk, hp⟩⟩

theorem ccLoop_ok {a : CC} {x : Code} (ha : CCOk P N dp L a x) : CCOk P N dp L (ccLoop a) (.loop x) := by
  intro n call φ e h nx w tm df A out hcall hT hD hR hv Q hQ hlet
  -- the state at the loop's head, with so many rounds left
  let J : Nat → Act → World → Prop := fun k A1 w1 => ∃ tm1 df1 h1 nx1 φ1, PS P.globals.size φ e h nx w φ1 h1 nx1 w1 ∧ TR φ1 e N dp L tm1 A1 ∧ DR φ1 e df1 A1.defers ∧ loopN (a.run n) k call tm1 df1 h1 nx1 = some out
  let μ : Act → World → Nat := fun A1 w1 => open Classical in if hx : ∃ k, J k A1 w1 then Classical.choose (least hx) else 0
  have hμ : ∀ A1 w1, (∃ k, J k A1 w1) → J (μ A1 w1) A1 w1 ∧ ∀ j, J j A1 w1 → μ A1 w1 ≤ j := by
    intro A1 w1 hx
    have hspec := Classical.choose_spec (least hx)
    have he : μ A1 w1 = Classical.choose (least hx) := by simp only [μ]; rw [dif_pos hx]
    rw [he]
    refine ⟨hspec.1, fun j hj => ?_⟩
    rcases Nat.lt_or_ge j (Classical.choose (least hx)) with hlt | hge
    · exact absurd hj (hspec.2 j hlt)
    · exact hge
  refine wp_loop (fun A1 w1 => ∃ k, J k A1 w1) μ ⟨n, tm, df, h, nx, φ, PS.refl hR, hT, hD, hv⟩ ?_
  intro A1 w1 hI
  obtain ⟨⟨tm1, df1, h1, nx1, φ1, hps, hT1, hD1, hrun⟩, _⟩ := hμ A1 w1 hI
  cases hk : μ A1 w1 with
  | zero => rw [hk] at hrun; cases hrun
  | succ k =>
    rw [hk] at hrun
    obtain ⟨o1, h2, h3⟩ := ob_some (x := a.run n call tm1 df1 h1 nx1) hrun
    refine ha hcall hT1 hD1 hps.rw h2 _ ?_ (trivial)
    rintro ex A' w' ⟨x1, tm2, df2, h4, nx4, φ4, rfl, hps2, hex, hT2, hD2⟩
    cases hex with
    | normal =>
      have hJ : J k A' w' := ⟨tm2, df2, h4, nx4, φ4, hps.trans hps2, hT2, hD2, h3⟩
      exact ⟨⟨k, hJ⟩, Nat.lt_succ_of_le ((hμ A' w' ⟨k, hJ⟩).2 k hJ)⟩
    | exit id => cases h3; exact hQ _ _ _ ⟨_, _, _, _, _, _, rfl, hps.trans hps2, .exit id, hT2, hD2⟩
    | ret => cases h3; exact hQ _ _ _ ⟨_, _, _, _, _, _, rfl, hps.trans hps2, .ret, hT2, hD2⟩
    | pan v u hu => cases h3; exact hQ _ _ _ ⟨_, _, _, _, _, _, rfl, hps.trans hps2, .pan v u hu, hT2, hD2⟩

theorem region_seq_ok {id : Nat} {ops : Array Oper} : CCOk P N dp L (ccRegion P N dp L ops.toList false) (.region id ops false) := by
  intro n call φ e h nx w tm df A out hcall hT hD hR hv Q hQ hlet
  exact wp_region_list (seq_ok hcall ops.toList (cx := ⟨dp, L, [], P.globals.size⟩) (Nat.le_refl _) hv hT.any (fun t j hj => by cases hj) hD hR Q hQ hlet)

/-- what is still asked of the regions whose order is open -/
def DrawOk (P : Program) : Prop := ∀ N dp L id ops, CCOk P N dp L (ccRegion P N dp L ops.toList true) (.region id ops true)

theorem cCode_ok (hdraw : DrawOk P) (c : Code) : CCOk P N dp L (cCode P N dp L c) c := by
  induction c with
  | skip => exact ccSkip_ok
  | region id ops draw =>
    cases draw with
    | true => exact hdraw N dp L id ops
    | false => exact region_seq_ok
  | seq a b iha ihb => exact ccSeq_ok iha ihb
  | cond c a b iha ihb => exact ccCond_ok iha ihb
  | block id a iha => exact ccBlock_ok iha
  | loop a iha => exact ccLoop_ok iha
  | exit id => exact ccExit_ok id
  | ret => exact ccRet_ok
  | _ => exact ccNo_ok _
end
end Go.AE

/-
A symbolic executor: results, deferred calls and recover, functions, calls.
-/
namespace Go.AE

/-- how a frame leaves -/
inductive UR (φ : Ph) (e : Syms) : DMode → FrameMode → Prop where
  | ret : UR φ e .returning .returning
  | pan (v : AV) (u : Value) (r : Bool) (h : VR φ e v u) : UR φ e (.panicking v r) (.panicking [{ v := u, recovered := r }])
theorem UR.mono {φ φ' : Ph} {e : Syms} (hle : Phi.le φ φ') {u : DMode} {m : FrameMode} (h : UR φ e u m) : UR φ' e u m := by
  cases h with
  | ret => exact .ret
  | pan v u r h => exact .pan v u r (h.mono hle)

section
variable {P : Program} {φ φ' φ2 : Ph} {e : Syms} {N dp L : Nat} {tm : TM} {df : Defs} {A : Act} {h h' h2 : Heap} {nx nx' nx2 : Nat} {w w' w2 : World} {G : Nat}

/-! results -/
def resVar (tmps : Array Value) : ResultVar → Sem Value
  | .tmp t => pure (tmps.getD t undef)
  | .cell a t => do loadVar t (← asAddr (tmps.getD a undef))
theorem results_eq (fn : Func) (tmps : Array Value) : results fn tmps = (do
    let vs ← fn.results.mapM (resVar tmps)
    pure (if h : vs.size = 1 then vs[0] else .tuple vs)) := by
  unfold results
  congr 2
theorem hasBit_zero (d : Nat) : hasBit 0 d = false := by
  unfold hasBit
  rw [show Nat.div 0 (Nat.pow 2 d) = 0 from Nat.zero_div _]
  rfl
theorem TR.zero {G : Nat} (hT : TR φ e N dp L tm A) : AR φ e N ⟨dp, 0, [], G⟩ [] tm A :=
  ⟨hT.size, hT.dep, hT.val, fun t _ hb => (by rw [show (Cx.mk dp 0 [] G).L = 0 from rfl, hasBit_zero] at hb; cases hb), fun t j v hj _ => by cases hj⟩

theorem rsVar_ok (hT : TR φ e N dp L tm A) (hR : RW P.globals.size φ e h nx w) {r : ResultVar} {v : AV} (hv : (rsVar P dp r).run tm h = some v) :
    ∃ u, (resVar A.tmps r).run P w = .ok u w ∧ VR φ e v u := by
  cases r with
  | tmp t =>
    have := cO_ok (hT.zero (G := 0)) (fun g hg => absurd hg (Nat.not_lt_zero g)) (x := .tmp t) hv
    exact ⟨_, rfl, this⟩
  | cell a t =>
    obtain ⟨p, hp, h1⟩ := ob_some (x := (cO ⟨dp, 0, [], 0⟩ (.tmp a)).run [] tm) hv
    obtain ⟨b, off, hq, h2⟩ := onPtr_some h1
    subst hq
    have := cO_ok (hT.zero (G := 0)) (fun g hg => absurd hg (Nat.not_lt_zero g)) (x := .tmp a) hp
    obtain ⟨K, hK, he⟩ := this.inv_ptr
    obtain ⟨u, hu, hr⟩ := loadB_ok hR.rv hK h2
    refine ⟨u, ?_, hr⟩
    have he : A.tmps.getD a undef = .pointer (some ⟨K.B, K.O + off, none⟩) := he
    simp [resVar, he, asAddr, hu]

theorem mapM_ok {α : Type} (f : α → Sem Value) (g : α → Option AV) (hfg : ∀ a v, g a = some v → ∃ u, (f a).run P w = .ok u w ∧ VR φ e v u) : ∀ (l : List α) (r : List AV), mapO g l = some r →
    ∃ us, (l.mapM f).run P w = .ok us w ∧ VRL φ e r us := by
  intro l
  induction l with
  | nil => intro r h; cases h; exact ⟨[], by simp, .nil⟩
  | cons a l ih =>
    intro r h
    obtain ⟨b, q, hb, hq, rfl⟩ := mapO_cons h
    obtain ⟨u, hu, hr⟩ := hfg a b hb
    obtain ⟨us, hus, hrs⟩ := ih q hq
    exact ⟨u :: us, by simp [List.mapM_cons, hu, hus], .cons _ _ _ _ hr hrs⟩

theorem mapO_map {α β γ : Type} (f : β → Option γ) (g : α → β) : ∀ l : List α, mapO f (mapL g l) = mapO (fun a => f (g a)) l := by
  intro l
  induction l with
  | nil => rfl
  | cons a l ih =>
    show ob (f (g a)) (fun b => ob (mapO f (mapL g l)) fun r => some (b :: r)) = ob (f (g a)) (fun b => ob (mapO (fun a => f (g a)) l) fun r => some (b :: r))
    rw [ih]

theorem results_ok {fn : Func} (hT : TR φ e N dp L tm A) (hR : RW P.globals.size φ e h nx w) {l : List AV} (hv : rsList (mapL (rsVar P dp) fn.results.toList) tm h = some l) :
    ∃ v, (results fn A.tmps).run P w = .ok v w ∧ VR φ e (oneA l) v := by
  unfold rsList at hv
  rw [mapO_map] at hv
  obtain ⟨us, hus, hrs⟩ := mapM_ok (P := P) (w := w) (φ := φ) (e := e) (resVar A.tmps) (fun r => (rsVar P dp r).run tm h) (fun r v hr => rsVar_ok hT hR hr) fn.results.toList l hv
  have hm : (results fn A.tmps).run P w = .ok (if h : us.toArray.size = 1 then us.toArray[0] else .tuple us.toArray) w := by
    rw [results_eq, Array.mapM_eq_mapM_toList]
    simp only [Sem.run_bind, Sem.run_map, hus, Result.andThen_ok]
    rfl
  refine ⟨_, hm, ?_⟩
  cases hrs with
  | nil => exact .tuple' .nil
  | cons a l v r hv1 t =>
    cases t with
    | nil => exact hv1
    | cons b l' u r' hv2 t' => exact .tuple' (.cons _ _ _ _ hv1 (.cons _ _ _ _ hv2 t'))

/-! deferred calls -/
def DOutR (G N dp : Nat) (c0 : Go.Frame) (cs : List Go.Frame) (φ : Ph) (e : Syms) (h : Heap) (nx : Nat) (w : World) (out : DOut2) (ex : Exit) (A' : Act) (cs' : List Go.Frame) (w' : World) : Prop :=
  ∃ x tm h' nx' u' um' φ', out = .mk x tm h' nx' u' ∧ PS G φ e h nx w φ' h' nx' w' ∧ ExR φ' e x ex ∧ TR φ' e N dp 0 tm A' ∧ A'.defers = [] ∧ UR φ' e u' um' ∧ cs' = { c0 with mode := um' } :: cs

theorem DOutR.trans {c0 : Go.Frame} {cs : List Go.Frame} {out : DOut2} {ex : Exit} {A' : Act} {cs' : List Go.Frame} (a : PS G φ e h nx w φ' h' nx' w') (b : DOutR G N dp c0 cs φ' e h' nx' w' out ex A' cs' w2) : DOutR G N dp c0 cs φ e h nx w out ex A' cs' w2 := by
  obtain ⟨x, tm, h2, nx2, u2, um2, φ2, h3, h4, h5⟩ := b
  exact ⟨x, tm, h2, nx2, u2, um2, φ2, h3, a.trans h4, h5⟩

theorem DR.nil_inv {ds : List Deferred} (h : DR φ e [] ds) : ds = [] := by cases h; rfl

/-- code in which nobody recovers -/
theorem dRun_ok {c : CC} {code : Code} (hc : CCOk P N dp 0 c code) {c0 : Go.Frame} {cs : List Go.Frame} {n : Nat} {call : CallF} (hcall : CallOk P call) {u : DMode} {um : FrameMode} {out : DOut2}
    (hT : TR φ e N dp 0 tm A) (hD : A.defers = []) (hR : RW P.globals.size φ e h nx w) (hU : UR φ e u um) (hv : dRun c n call tm h nx u = some out) (Q : Exit → Act → List Go.Frame → World → Prop)
    (hQ : ∀ ex A' cs' w', DOutR P.globals.size N dp c0 cs φ e h nx w out ex A' cs' w' → Q ex A' cs' w') (hlet : True) : code.wpS P Q A ({ c0 with mode := um } :: cs) w := by
  obtain ⟨o1, h1, h2⟩ := ob_some (x := c.run n call tm [] h nx) hv
  refine wpS_of_wp (hc hcall hT (by rw [hD]; exact .nil) hR h1 _ ?_ trivial)
  rintro ex A' w' ⟨x, tm', df', h', nx', φ', rfl, hps, hex, hT', hD'⟩
  cases df' with
  | cons d ds => cases h2
  | nil =>
    cases h2
    exact hQ _ _ _ _ ⟨x, tm', h', nx', u, um, φ', rfl, hps, hex, hT', hD'.nil_inv, hU.mono (hR.le_of_ext hps.ext), rfl⟩

theorem locOf_zero (dp G : Nat) (d : Option Tmp) : locOf ⟨dp, 0, [], G⟩ d = ⟨dp, 0, [], G⟩ := by
  cases d with
  | none => rfl
  | some d => simp only [locOf, hasBit_zero]

theorem dOps_ok {ops : Array Oper} {call : CallF} (hcall : CallOk P call) {c0 : Go.Frame} {cs : List Go.Frame} : ∀ (l : List Nat) (lo : List Oper) (k : Nat), l = List.range' k lo.length → (∀ j, lo[j]? = ops[k + j]?) →
    ∀ {φ : Ph} {h : Heap} {nx : Nat} {w : World} {tm : TM} {A : Act} {u : DMode} {um : FrameMode} {out : DOut2}, TR φ e N dp 0 tm A → A.defers = [] → RW P.globals.size φ e h nx w → UR φ e u um →
      dOps (cSeq P N ops.toList lo ⟨dp, 0, [], P.globals.size⟩) call tm h nx u = some out → ∀ (Q : Exit → Act → List Go.Frame → World → Prop),
        (∀ ex A' cs' w', DOutR P.globals.size N dp c0 cs φ e h nx w out ex A' cs' w' → Q ex A' cs' w') → True →
        wpOpsS P ops Q l A ({ c0 with mode := um } :: cs) w := by
  intro l lo
  induction lo generalizing l with
  | nil =>
    intro k hl hlo φ h nx w tm A u um out hT hD hR hU hv Q hQ hlet
    subst hl
    cases hv
    exact hQ _ _ _ _ ⟨.normal, tm, h, nx, u, um, φ, rfl, PS.refl hR, .normal, hT, hD, hU, rfl⟩
  | cons o lo ih =>
    intro k hl hlo φ h nx w tm A u um out hT hD hR hU hv Q hQ hlet
    subst hl
    have ho : ops[k]? = some o := by have := hlo 0; simpa using this.symm
    have hlo' : ∀ j, lo[j]? = ops[k + 1 + j]? := fun j => by
      have := hlo (j + 1)
      rw [List.getElem?_cons_succ] at this
      rw [this]; congr 1; omega
    change dOp (cOp P N ⟨dp, 0, [], P.globals.size⟩ ops.toList o) call (dOps (cSeq P N ops.toList lo (locOf ⟨dp, 0, [], P.globals.size⟩ o.dst)) call) tm h nx u = some out at hv
    rw [locOf_zero] at hv
    rw [List.length_cons, List.range'_succ]
    simp only [wpOpsS, ho]
    -- what follows
    have next : ∀ {tm' : TM} {h' : Heap} {nx' : Nat} {u' : DMode} {um' : FrameMode} {A' : Act} {w' : World} {φ' : Ph}, PS P.globals.size φ e h nx w φ' h' nx' w' → TR φ' e N dp 0 tm' A' → A'.defers = [] → UR φ' e u' um' →
        dOps (cSeq P N ops.toList lo ⟨dp, 0, [], P.globals.size⟩) call tm' h' nx' u' = some out → wpOpsS P ops Q (List.range' (k + 1) lo.length) A' ({ c0 with mode := um' } :: cs) w' := by
      intro tm' h' nx' u' um' A' w' φ' h1 h2 h3 h4 h5
      exact ih _ (k + 1) rfl hlo' h2 h3 h1.rw h4 h5 Q (fun ex A2 cs2 w2 h6 => hQ ex A2 cs2 w2 (h6.trans h1)) hlet
    unfold dOp at hv
    cases hrc : isRcK (cOp P N ⟨dp, 0, [], P.globals.size⟩ ops.toList o).k with
    | true =>
      rw [hrc] at hv
      obtain ⟨b, hb, h1⟩ := ob_some (x := wantG (cOp P N ⟨dp, 0, [], P.globals.size⟩ ops.toList o).g [] tm) hv
      obtain ⟨h2, h3⟩ := guardB_some h1
      subst h2
      have hd : ∀ d', o.dst = some d' → Nat.blt d' N = true := by
        intro d' hd'
        cases hlt : Nat.blt d' N with
        | true => rfl
        | false =>
          have : cOp P N ⟨dp, 0, [], P.globals.size⟩ ops.toList o = ⟨.no, .none, .yes⟩ := by simp only [cOp, hd', cDst, hlt]
          rw [this] at hrc; cases hrc
      have hkg : (cOp P N ⟨dp, 0, [], P.globals.size⟩ ops.toList o).k = cKind P ⟨dp, 0, [], P.globals.size⟩ o.op ∧ (cOp P N ⟨dp, 0, [], P.globals.size⟩ ops.toList o).g = cGuard ⟨dp, 0, [], P.globals.size⟩ ops.toList o.guard := by
        unfold cOp
        cases hdst : o.dst with
        | none => exact ⟨rfl, rfl⟩
        | some d =>
          have := hd d hdst
          refine ⟨?_, ?_⟩ <;> simp [cDst, this, hasBit_zero]
      rw [hkg.2] at hb
      have hw := guard_ok (fun g hg => hR.gl g hg) (ops := ops) (o := o) (hT.any (G := P.globals.size)) hb
      rw [if_pos hw]
      have hkind := cKind_ok (P := P) (cx := ⟨dp, 0, [], P.globals.size⟩) (Nat.le_refl _) o
      rw [hkg.1] at hrc
      have hk2 : cKind P ⟨dp, 0, [], P.globals.size⟩ o.op = .rc := by
        cases hq : cKind P ⟨dp, 0, [], P.globals.size⟩ o.op <;> rw [hq] at hrc <;> first | rfl | cases hrc
      rw [hk2] at hkind
      obtain ⟨c, hoc, hcc⟩ := hkind
      have hrun : (execOp A.eval o).run P w = .ok .recover w := by rw [run_builtin hoc hcc]; rfl
      rw [hrun]
      simp only
      have put : ∀ {v : AV} {x : Value}, VR φ e v x → TR φ e N dp 0 (putD (cOp P N ⟨dp, 0, [], P.globals.size⟩ ops.toList o).d v tm) (A.put o.dst x) := by
        intro v x hvx
        obtain ⟨nv', tm', h4, h5, _⟩ := put_ok (N := N) (k0 := cKind P ⟨dp, 0, [], P.globals.size⟩ o.op) (g0 := cGuard ⟨dp, 0, [], P.globals.size⟩ ops.toList o.guard) (d := o.dst) (df := []) (h := h) (nx := nx)
          (K := fun nv tm df h nx => some (.mk .normal tm df h nx)) (out := .mk .normal (putD (cOp P N ⟨dp, 0, [], P.globals.size⟩ ops.toList o).d v tm) [] h nx) hd (hT.any (G := P.globals.size)) (fun t j hj => by cases hj) hvx
          (by
            show (dcOf (cOp P N ⟨dp, 0, [], P.globals.size⟩ ops.toList o).d).run v [] tm [] h nx _ = _
            unfold cOp
            cases hdst : o.dst with
            | none => rfl
            | some d =>
              have := hd d hdst
              simp only [cDst, this, hasBit_zero]
              rfl)
        cases h4
        rw [locOf_zero] at h5
        exact h5.tr
      cases hU with
      | ret =>
        have : recoverD ({ c0 with mode := .returning } :: cs) = none := rfl
        rw [this]
        exact next (PS.refl hR) (put .nilIface) (by rw [Act.put_defers]; exact hD) .ret h3
      | pan v x r hvx =>
        cases r with
        | true =>
          have : recoverD ({ c0 with mode := .panicking [{ v := x, recovered := true }] } :: cs) = none := rfl
          rw [this]
          exact next (PS.refl hR) (put .nilIface) (by rw [Act.put_defers]; exact hD) (.pan v x true hvx) h3
        | false =>
          have : recoverD ({ c0 with mode := .panicking [{ v := x, recovered := false }] } :: cs) = some (x, { c0 with mode := .panicking [{ v := x, recovered := true }] } :: cs) := rfl
          rw [this]
          exact next (PS.refl hR) (put hvx) (by rw [Act.put_defers]; exact hD) (.pan v x true hvx) h3
    | false =>
      rw [hrc] at hv
      obtain ⟨o1, h1, h2⟩ := ob_some (x := (ocList [cOp P N ⟨dp, 0, [], P.globals.size⟩ ops.toList o]).run call [] tm [] h nx) hv
      obtain ⟨q, h3, h4⟩ := ob_some (x := toD u o1) h2
      have hw := seqL_ok (ops := ops) hcall [o] (cx := ⟨dp, 0, [], P.globals.size⟩) (nv := []) (tm := tm) (df := []) (out := o1) (Nat.le_refl _) h1 (hT.any (G := P.globals.size)) (fun t j hj => by cases hj) (by rw [hD]; exact .nil) hR
        (fun ex a w => match ex with
          | .normal => wpOpsS P ops Q (List.range' (k + 1) lo.length) a ({ c0 with mode := um } :: cs) w
          | ex => Q ex a ({ c0 with mode := um } :: cs) w) (by
        rintro ex A' w' ⟨x, tm', df', h', nx', φ', rfl, hps, hex, hT', hD'⟩
        cases df' with
        | cons d ds => cases h3
        | nil =>
          cases h3
          have hU' := hU.mono (hR.le_of_ext hps.ext)
          cases hex with
          | normal => exact next hps hT' hD'.nil_inv hU' h4
          | exit id => cases h4
          | ret => cases h4
          | pan v y hy => cases h4) trivial
      simp only [wpL] at hw
      split
      · rename_i hwant
        rw [if_pos hwant] at hw
        unfold Oper.wp at hw
        split
        · rename_i w1 hrun
          rw [hrun] at hw
          exact hw.elim
        · exact hw
      · rename_i hwant
        rw [if_neg hwant] at hw
        exact hw
end
end Go.AE

/-
A symbolic executor: functions and calls.
-/
namespace Go.AE

section
variable {md : Bool} {P : Program} {φ φ' φ2 : Ph} {e : Syms} {N dp L : Nat} {tm : TM} {df : Defs} {A : Act} {h h' h2 : Heap} {nx nx' nx2 : Nat} {w w' w2 : World} {G : Nat}

theorem dCode_ok (hdraw : DrawOk P) {call : CallF} (hcall : CallOk P call) {c0 : Go.Frame} {cs : List Go.Frame} {n : Nat} (c : Code) : ∀ {φ : Ph} {h : Heap} {nx : Nat} {w : World} {tm : TM} {A : Act} {u : DMode} {um : FrameMode} {out : DOut2},
    TR φ e N dp 0 tm A → A.defers = [] → RW P.globals.size φ e h nx w → UR φ e u um → dCode P N dp n call c tm h nx u = some out → ∀ (Q : Exit → Act → List Go.Frame → World → Prop),
      (∀ ex A' cs' w', DOutR P.globals.size N dp c0 cs φ e h nx w out ex A' cs' w' → Q ex A' cs' w') → True → c.wpS P Q A ({ c0 with mode := um } :: cs) w := by
  induction c with
  | skip => intro φ h nx w tm A u um out hT hD hR hU hv Q hQ hlet; exact dRun_ok (n := n) ccSkip_ok hcall hT hD hR hU hv Q hQ hlet
  | region id ops draw =>
    intro φ h nx w tm A u um out hT hD hR hU hv Q hQ hlet
    cases draw with
    | true => exact dRun_ok (hdraw N dp 0 id ops) hcall hT hD hR hU hv Q hQ hlet
    | false =>
      change (sel (anyRc (cSeq P N ops.toList ops.toList ⟨dp, 0, [], P.globals.size⟩)) (dOps (cSeq P N ops.toList ops.toList ⟨dp, 0, [], P.globals.size⟩) call) (dRun (ccRegion P N dp 0 ops.toList false) n call)) tm h nx u = some out at hv
      cases hrc : anyRc (cSeq P N ops.toList ops.toList ⟨dp, 0, [], P.globals.size⟩) with
      | true =>
        rw [hrc] at hv
        refine wpS_region (dOps_ok hcall (List.range ops.size) ops.toList 0 ?_ (by simp) hT hD hR hU hv Q hQ hlet)
        rw [List.range_eq_range', Array.length_toList]
      | false =>
        rw [hrc] at hv
        exact dRun_ok region_seq_ok hcall hT hD hR hU hv Q hQ hlet
  | seq a b iha ihb =>
    intro φ h nx w tm A u um out hT hD hR hU hv Q hQ hlet
    obtain ⟨o1, h1, h2⟩ := ob_some (x := dCode P N dp n call a tm h nx u) hv
    refine wpS_seq (iha hT hD hR hU h1 _ ?_ trivial)
    rintro ex A' cs' w' ⟨x, tm', h', nx', u', um', φ', rfl, hps, hex, hT', hD', hU', rfl⟩
    cases hex with
    | normal => exact ihb hT' hD' hps.rw hU' h2 Q (fun ex A2 cs2 w2 h3 => hQ ex A2 cs2 w2 (h3.trans hps)) hlet
    | exit id => cases h2; exact hQ _ _ _ _ ⟨_, _, _, _, _, _, _, rfl, hps, .exit id, hT', hD', hU', rfl⟩
    | ret => cases h2; exact hQ _ _ _ _ ⟨_, _, _, _, _, _, _, rfl, hps, .ret, hT', hD', hU', rfl⟩
    | pan v y hy => cases h2; exact hQ _ _ _ _ ⟨_, _, _, _, _, _, _, rfl, hps, .pan v y hy, hT', hD', hU', rfl⟩
  | cond c a b iha ihb =>
    intro φ h nx w tm A u um out hT hD hR hU hv Q hQ hlet
    obtain ⟨v, hc, h1⟩ := ob_some (x := (cO ⟨dp, 0, [], P.globals.size⟩ c).run [] tm) hv
    obtain ⟨t, ht, h2⟩ := onBool_some h1
    subst ht
    have hce := (cO_ok hT.any (fun g hg => hR.gl g hg) hc).inv_bool
    refine wpS_cond hce ?_
    cases t with
    | true => exact iha hT hD hR hU h2 Q hQ hlet
    | false => exact ihb hT hD hR hU h2 Q hQ hlet
  | block id a iha => intro φ h nx w tm A u um out hT hD hR hU hv Q hQ hlet; exact dRun_ok (n := n) (cCode_ok hdraw (.block id a)) hcall hT hD hR hU hv Q hQ hlet
  | loop a iha => intro φ h nx w tm A u um out hT hD hR hU hv Q hQ hlet; exact dRun_ok (n := n) (cCode_ok hdraw (.loop a)) hcall hT hD hR hU hv Q hQ hlet
  | exit id => intro φ h nx w tm A u um out hT hD hR hU hv Q hQ hlet; exact dRun_ok (n := n) (ccExit_ok id) hcall hT hD hR hU hv Q hQ hlet
  | ret => intro φ h nx w tm A u um out hT hD hR hU hv Q hQ hlet; exact dRun_ok (n := n) ccRet_ok hcall hT hD hR hU hv Q hQ hlet
  | _ => intro φ h nx w tm A u um out hT hD hR hU hv Q hQ hlet; cases hv

/-! frames at their beginning -/
theorem argsT_get (dp : Nat) : ∀ (l : List AV) (i : Nat) (t : TM) (j : Nat), j < 2 ^ dp → i + l.length ≤ 2 ^ dp → tget dp j (argsT dp l i t) = if i ≤ j ∧ j < i + l.length then l[j - i]? else tget dp j t := by
  intro l
  induction l with
  | nil => intro i t j _ _; rw [if_neg (by intro h; simp at h; omega)]; rfl
  | cons v l ih =>
    intro i t j hj hi
    simp only [List.length_cons] at hi ⊢
    change tget dp j (argsT dp l (i + 1) (tset dp i v t)) = _
    rw [ih (i + 1) _ j hj (by omega)]
    by_cases h1 : i + 1 ≤ j ∧ j < i + 1 + l.length
    · rw [if_pos h1, if_pos (by omega)]
      obtain ⟨m, hm⟩ : ∃ m, j - i = m + 1 := ⟨j - i - 1, by omega⟩
      rw [hm, List.getElem?_cons_succ]
      congr 1; omega
    · rw [if_neg h1]
      by_cases h2 : j = i
      · subst h2
        rw [tget_tset, if_pos (by omega)]
        simp
      · rw [tget_tset_ne dp v t hj (by omega) h2, if_neg (by omega)]

theorem bits_low {L k t : Nat} (h : L % 2 ^ k = 0) (ht : t < k) : hasBit L t = false := by
  unfold hasBit
  have h1 : Nat.mod (Nat.div L (Nat.pow 2 t)) 2 = 0 := by
    show L / 2 ^ t % 2 = 0
    obtain ⟨c, hc⟩ := Nat.dvd_of_mod_eq_zero h
    obtain ⟨d, rfl⟩ : ∃ d, k = t + 1 + d := ⟨k - t - 1, by omega⟩
    rw [hc, show 2 ^ (t + 1 + d) * c = 2 ^ t * (2 * (2 ^ d * c)) by rw [Nat.pow_add, Nat.pow_succ]; simp [Nat.mul_assoc]]
    rw [Nat.mul_div_cancel_left _ (Nat.pow_pos (by decide))]
    omega
  rw [h1]; rfl

theorem enter_ok {args : List AV} {xs : Array Value} (hx : VRL φ e args xs.toList) (hlen : args.length ≤ N) (hN : N ≤ 2 ^ dp) (hL : L % 2 ^ args.length = 0) :
    TR φ e N dp L (argsT dp args 0 (tmInit md)) { tmps := xs ++ Array.replicate (N - xs.size) undef, defers := [] } := by
  have hl : args.length = xs.size := by rw [hx.length, Array.length_toList]
  refine ⟨?_, hN, ?_, ?_, fun t j v hj _ => by cases hj⟩
  · simp; omega
  · intro t v ht hv
    rw [argsT_get dp args 0 (tmInit md) t ht (by omega)] at hv
    by_cases h1 : 0 ≤ t ∧ t < 0 + args.length
    · rw [if_pos h1] at hv
      obtain ⟨u, hu, hr⟩ := hx.get hv
      rw [Nat.sub_zero, Array.getElem?_toList] at hu
      rw [Array.getD_eq_getD_getElem?, Array.getElem?_append_left (by omega), hu]
      exact hr
    · rw [if_neg h1, tget_init] at hv; cases hv
  · intro t ht hb
    rw [argsT_get dp args 0 (tmInit md) t ht (by omega)]
    by_cases h1 : 0 ≤ t ∧ t < 0 + args.length
    · have := bits_low hL (t := t) (by omega)
      change hasBit L t = true at hb
      rw [this] at hb; cases hb
    · rw [if_neg h1, tget_init]

theorem depth_ok (N : Nat) : N ≤ 2 ^ depthOf N := Nat.le_of_lt Nat.lt_log2_self

theorem cFunc_some {loc : FuncId → Nat} {f : FuncId} {cf : CF} (h : cFunc P loc f = some cf) : ∃ fn c, P.funcs[f]? = some fn ∧ fn.body = some c ∧ cf = cFunc2 P fn.ntmps (depthOf fn.ntmps) (loc f) fn.results.toList c := by
  obtain ⟨fn, hf, h1⟩ := ob_some (x := lget P.funcs.toList f) h
  obtain ⟨c, hc, h2⟩ := ob_some (x := fn.body) h1
  rw [lget_eq, Array.getElem?_toList] at hf
  cases h2
  exact ⟨fn, c, hf, hc, rfl⟩

/-- no function with a body goes by the name that the model treats apart -/
def NamesOk (P : Program) : Prop := ∀ (f : FuncId) (fn : Func), P.funcs[f]? = some fn → fn.body.isSome = true → (fn.name == "runtime.NumGoroutine") = false

theorem run_enter (hn : NamesOk P) {f : FuncId} {fn : Func} {c : Code} (hf : P.funcs[f]? = some fn) (hb : fn.body = some c) (args : Array Value) (w : World) : (callFunc f args).run P w = .ok (.enter f args) w := by
  have h1 := hn f fn hf (by rw [hb]; rfl)
  have h2 : ¬ fn.name = "runtime.NumGoroutine" := by simpa using h1
  simp [callFunc, hf, h2, hb]

/-- the endings of a call -/
def RR (G : Nat) (φ : Ph) (e : Syms) (h : Heap) (nx : Nat) (w : World) (r : CRes) : Ending → World → Prop
  | .returned v, w' => ∃ av φ' h' nx', r = .ret av h' nx' ∧ PS G φ e h nx w φ' h' nx' w' ∧ VR φ' e av v
  | .panicked chain, w' => ∃ av φ' h' nx' u, r = .pan av h' nx' ∧ PS G φ e h nx w φ' h' nx' w' ∧ VR φ' e av u ∧ chain = [{ v := u, recovered := false }]
  | .outgrown, _ => False
theorem RR.trans {r : CRes} (a : PS G φ e h nx w φ' h' nx' w') {en : Ending} (b : RR G φ' e h' nx' w' r en w2) : RR G φ e h nx w r en w2 := by
  cases en with
  | returned v => obtain ⟨av, φ2, h2, nx2, h3, h4, h5⟩ := b; exact ⟨av, φ2, h2, nx2, h3, a.trans h4, h5⟩
  | panicked chain => obtain ⟨av, φ2, h2, nx2, u, h3, h4, h5⟩ := b; exact ⟨av, φ2, h2, nx2, u, h3, a.trans h4, h5⟩
  | outgrown => exact b

theorem UR.settle {u : DMode} {um : FrameMode} (h : UR φ e u um) : UR φ e (settleD u) (settle um) := by
  cases h with
  | ret => exact .ret
  | pan v x r hv =>
    cases r with
    | true => exact .ret
    | false => exact .pan v x false hv

theorem retR_ok {fn : Func} {r : CRes} (hT : TR φ e N dp L tm A) (hR : RW P.globals.size φ e h nx w) (hv : retR (mapL (rsVar P dp) fn.results.toList) tm h nx = some r) :
    ∃ v, (results fn A.tmps).run P w = .ok v w ∧ RR P.globals.size φ e h nx w r (.returned v) w := by
  obtain ⟨l, hl, h1⟩ := ob_some (x := rsList (mapL (rsVar P dp) fn.results.toList) tm h) hv
  cases h1
  obtain ⟨v, hv1, hr⟩ := results_ok hT hR hl
  exact ⟨v, hv1, _, φ, h, nx, rfl, PS.refl hR, hr⟩

theorem leaves_ok (hdraw : DrawOk P) (hn : NamesOk P) {call : CallF} (hcall : CallOk P call) {loc : FuncId → Nat} {n : Nat} {fn : Func} {r : CRes} {q : DEnd} : ∀ (df : Defs) (ds : List Deferred)
    {φ : Ph} {h : Heap} {nx : Nat} {w : World} {u : DMode} {um : FrameMode} {R : Ending → World → Prop}, DR φ e df ds → RW P.globals.size φ e h nx w → UR φ e u um → TR φ e N dp L tm A →
      defers P md loc n call df u h nx = some q → endM (mapL (rsVar P dp) fn.results.toList) tm q = some r → (∀ en w', RR P.globals.size φ e h nx w r en w' → R en w') → Leaves P fn A.tmps R ds um w := by
  intro df
  induction df with
  | nil =>
    intro ds φ h nx w u um R hD hR hU hT hv hend hRR
    cases hD
    cases hv
    cases hU with
    | ret =>
      obtain ⟨v, h1, h2⟩ := retR_ok hT hR hend
      exact ⟨v, h1, hRR _ _ h2⟩
    | pan v x rec hx =>
      cases rec with
      | true => cases hend
      | false =>
        cases hend
        exact hRR _ _ ⟨_, φ, h, nx, x, rfl, PS.refl hR, hx, rfl⟩
  | cons d df ih =>
    intro ds φ h nx w u um R hD hR hU hT hv hend hRR
    cases hD with
    | cons g args _ dd C ds htar hargs hD' =>
      obtain ⟨cf, hcf, h1⟩ := ob_some (x := cFunc P loc g) hv
      obtain ⟨gn, c, hf, hb, rfl⟩ := cFunc_some hcf
      obtain ⟨h2, h3⟩ := guardB_some h1
      have h2 := natBle h2
      rw [llen_eq] at h2
      obtain ⟨o2, h4, h5⟩ := ob_some (x := dCode P gn.ntmps (depthOf gn.ntmps) n call c (argsT (depthOf gn.ntmps) args 0 (tmInit md)) h nx u) h3
      refine ⟨?_, .func g, C, g, dd.args ++ C, htar, ?_, ?_⟩
      · cases hU <;> exact fun e => by cases e
      · rw [htar]
        exact run_enter hn hf hb _ w
      · refine callsD_of_wpS hf hb (fun c0 cs hc0 => ?_)
        have hc1 : ({ c0 with mode := um } : Go.Frame) = c0 := by subst hc0; rfl
        have hT0 : TR φ e gn.ntmps (depthOf gn.ntmps) 0 (argsT (depthOf gn.ntmps) args 0 (tmInit md)) { tmps := (dd.args ++ C) ++ Array.replicate (gn.ntmps - (dd.args ++ C).size) undef, defers := [] } :=
          enter_ok hargs h2 (depth_ok _) (Nat.zero_mod _)
        have := dCode_ok (c0 := c0) (cs := cs) hdraw hcall c hT0 rfl hR hU h4 (bodyPostS P gn c0 cs fun
          | .returned _, u', w' => Leaves P fn A.tmps R ds (settle u') w'
          | .panicked chain, u', w' => Leaves P fn A.tmps R ds (raised u' chain) w'
          | .outgrown, _, w' => R .outgrown w') ?_ trivial
        · rwa [hc1] at this
        · rintro ex A' cs' w' ⟨x, tm', h', nx', u', um', φ', rfl, hps, hex, hT', hDf', hU', rfl⟩
          have fin : ∀ (hl : (ob (rsList (mapL (rsVar P (depthOf gn.ntmps)) gn.results.toList) tm' h') fun _ => defers P md loc n call df (settleD u') h' nx') = some q),
              A'.defers = [] ∧ ∃ u2, ({ c0 with mode := um' } :: cs : List Go.Frame) = { c0 with mode := u2 } :: cs ∧ ∃ v, (results gn A'.tmps).run P w' = .ok v w' ∧ Leaves P fn A.tmps R ds (settle u2) w' := by
            intro hl
            obtain ⟨l, hl1, hl2⟩ := ob_some (x := rsList (mapL (rsVar P (depthOf gn.ntmps)) gn.results.toList) tm' h') hl
            obtain ⟨v, hv1, _⟩ := results_ok hT' hps.rw hl1
            refine ⟨hDf', um', rfl, v, hv1, ?_⟩
            have hle := hR.le_of_ext hps.ext
            exact ih ds (hD'.mono hle) hps.rw hU'.settle (hT.mono hle) hl2 hend (fun en w2 h6 => hRR en w2 (h6.trans hps))
          cases hex with
          | normal => exact fin h5
          | ret => exact fin h5
          | exit id => cases h5
          | pan v y hy => cases h5

theorem runF_ok (hdraw : DrawOk P) (hn : NamesOk P) {call : CallF} (hcall : CallOk P call) {loc : FuncId → Nat} {n : Nat} {f : FuncId} {fn : Func} {c : Code} (hf : P.funcs[f]? = some fn) (hb : fn.body = some c)
    {args : List AV} {xs : Array Value} {r : CRes} (hR : RW P.globals.size φ e h nx w) (hx : VRL φ e args xs.toList) (hv : runF P md loc n call args h nx (cFunc2 P fn.ntmps (depthOf fn.ntmps) (loc f) fn.results.toList c) = some r) :
    Calls P f xs w (RR P.globals.size φ e h nx w r) := by
  obtain ⟨h1, h2⟩ := guardB_some hv
  obtain ⟨h3, h4⟩ := andB_true h1
  have h3 := natBle h3
  have h4 : (loc f) % 2 ^ args.length = 0 := by have := natBeq h4; rw [llen_eq] at this; exact this
  rw [llen_eq] at h3
  obtain ⟨out, h5, h6⟩ := ob_some (x := (cCode P fn.ntmps (depthOf fn.ntmps) (loc f) c).run n call (argsT (depthOf fn.ntmps) args 0 (tmInit md)) [] h nx) h2
  have hT := enter_ok (md := md) (N := fn.ntmps) (L := loc f) hx h3 (depth_ok fn.ntmps) h4
  refine calls_of_wp_defers hf hb (cCode_ok hdraw c hcall hT .nil hR h5 _ ?_ trivial)
  rintro ex A' w' ⟨x, tm', df', h', nx', φ', rfl, hps, hex, hT', hD'⟩
  have tr : ∀ en w2, RR P.globals.size φ' e h' nx' w' r en w2 → RR P.globals.size φ e h nx w r en w2 := fun en w2 h7 => h7.trans hps
  change endD P md loc n call (mapL (rsVar P (depthOf fn.ntmps)) fn.results.toList) x tm' h' nx' df' = some r at h6
  cases df' with
  | nil =>
    have hd := hD'.nil_inv
    cases hex with
    | normal =>
      obtain ⟨v, h7, h8⟩ := retR_ok hT' hps.rw h6
      show Leaves P fn A'.tmps _ A'.defers .returning w'
      rw [hd]
      exact ⟨v, h7, tr _ _ h8⟩
    | ret =>
      obtain ⟨v, h7, h8⟩ := retR_ok hT' hps.rw h6
      show Leaves P fn A'.tmps _ A'.defers .returning w'
      rw [hd]
      exact ⟨v, h7, tr _ _ h8⟩
    | pan v u hu =>
      cases h6
      show Leaves P fn A'.tmps _ A'.defers (.panicking _) w'
      rw [hd]
      exact tr (.panicked _) _ ⟨_, φ', h', nx', u, rfl, PS.refl hps.rw, hu, rfl⟩
    | exit id => cases h6
  | cons d ds =>
    obtain ⟨u, hu, h7⟩ := ob_some (x := modeE x) h6
    obtain ⟨q, hq, h8⟩ := ob_some (x := defers P md loc n call (d :: ds) u h' nx') h7
    cases hex with
    | normal => cases hu; exact leaves_ok hdraw hn hcall (d :: ds) A'.defers hD' hps.rw .ret hT' hq h8 tr
    | ret => cases hu; exact leaves_ok hdraw hn hcall (d :: ds) A'.defers hD' hps.rw .ret hT' hq h8 tr
    | pan v y hy => cases hu; exact leaves_ok hdraw hn hcall (d :: ds) A'.defers hD' hps.rw (.pan v y false hy) hT' hq h8 tr
    | exit id => cases hu

/-- summaries answer as their functions do -/
def SpecOk (P : Program) (sp : Specs) : Prop :=
  ∀ (f : FuncId) (s : List AV → Heap → Nat → Option CRes), sp f = some s → ∀ {φ : Ph} {e : Syms} {h : Heap} {nx : Nat} {w : World} {args : List AV} {xs : Array Value} {r : CRes} {ar : ARes} (o : Oper) (a : Act),
    RW P.globals.size φ e h nx w → VRL φ e args xs.toList → s args h nx = some r → resR r = some ar → UponOk P o a ((callFunc f xs).run P w) (RVal P.globals.size φ e h nx w nx ar) (RPan P.globals.size φ e h nx w nx ar)

theorem callN_ok (hdraw : DrawOk P) (hn : NamesOk P) {sp : Specs} (hsp : SpecOk P sp) {loc : FuncId → Nat} {n : Nat} (depth : Nat) : CallOk P (callN P md sp loc n depth) := by
  induction depth with
  | zero => intro φ e h nx w f args xs r ar o a _ _ hv; cases hv
  | succ d ih =>
    intro φ e h nx w f args xs r ar o a hR hx hv hr
    change callS P md sp loc n (callN P md sp loc n d) f args h nx = some r at hv
    unfold callS at hv
    cases hs : sp f with
    | some s =>
      rw [hs] at hv
      exact hsp f s hs o a hR hx hv hr
    | none =>
      rw [hs] at hv
      obtain ⟨cf, hcf, h1⟩ := ob_some (x := cFunc P loc f) hv
      obtain ⟨fn, c, hf, hb, rfl⟩ := cFunc_some hcf
      have hc := runF_ok hdraw hn ih hf hb hR hx h1
      rw [run_enter hn hf hb]
      intro next Q hnext hQ hlet
      rw [Oper.upon_enter]
      refine hc.mono fun en w' hen => ?_
      cases en with
      | returned v =>
        obtain ⟨av, φ', h', nx', rfl, hps, hv⟩ := hen
        cases hr
        exact hnext v w' ⟨av, φ', h', nx', rfl, hps.post hR, hv⟩
      | panicked chain =>
        obtain ⟨av, φ', h', nx', u, rfl, hps, hv, rfl⟩ := hen
        cases hr
        exact hQ u w' ⟨av, φ', h', nx', rfl, hps.post hR, hv⟩
      | outgrown => exact hen.elim
end
end Go.AE

/-
A symbolic executor: the summaries of the two functions without a body.
-/
namespace Go.AE

/-- a function without a body, and what stands for it -/
def ExtOk (P : Program) (f : FuncId) (x : Array Value → Sem Value) : Prop :=
  ∃ fn, P.funcs[f]? = some fn ∧ (fn.name == "runtime.NumGoroutine") = false ∧ fn.body = none ∧ (Extern.findNext fn).isNone = true ∧ Extern.find fn = some x

section
variable {P : Program} {φ : Ph} {e : Syms} {h : Heap} {nx : Nat} {w : World}

theorem run_ext {f : FuncId} {x : Array Value → Sem Value} (hx : ExtOk P f x) (args : Array Value) {v : Value} (hv : (x args).run P w = .ok v w) : (callFunc f args).run P w = .ok (.value v) w := by
  obtain ⟨fn, hf, hn, hb, hfn, he⟩ := hx
  have h2 : ¬ fn.name = "runtime.NumGoroutine" := by simpa using hn
  have h3 : Extern.findNext fn = none := by simpa using hfn
  simp [callFunc, hf, h2, hb, h3, he, hv, mark, Sem.run]

theorem two_some {l : List AV} {k : AV → AV → Option CRes} {r : CRes} (h : two l k = some r) : ∃ a b, l = [a, b] ∧ k a b = some r := by
  unfold two at h
  split at h
  · exact ⟨_, _, rfl, h⟩
  · cases h
theorem onByte_some {β : Type} {v : AV} {k : Nat → Option β} {r : β} (h : onByte v k = some r) : ∃ m : Nat, v = .int .u8 (.ofNat m) ∧ m < 256 ∧ k m = some r := by
  obtain ⟨j, n, rfl, h1⟩ := onInt_some h
  obtain ⟨h2, h3⟩ := guardB_some h1
  obtain ⟨m, rfl, h4⟩ := onNatI_some h3
  obtain ⟨h5, h6⟩ := guardB_some h4
  have : j = .u8 := by
    have := natBeq h2
    cases j <;> first | rfl | cases this
  subst this
  exact ⟨m, rfl, natBlt h5, h6⟩

theorem byte_eq (a b : Nat) (hb : b < 256) : (UInt8.ofNat (a % 256) == UInt8.ofNat b) = Nat.beq (Nat.mod a 256) b := by
  have e1 : (UInt8.ofNat (a % 256)).toNat = a % 256 := by simp
  have e2 : (UInt8.ofNat b).toNat = b := by simp; omega
  cases hq : Nat.beq (Nat.mod a 256) b with
  | true =>
    have : a % 256 = b := natBeq hq
    rw [this]; simp
  | false =>
    have : a % 256 ≠ b := natBeq_false hq
    rw [beq_eq_false_iff_ne]
    intro h
    have := congrArg UInt8.toNat h
    rw [e1, e2] at this
    contradiction

theorem countB_eq (b : Nat) (hb : b < 256) : ∀ (n x : Nat), countB b n x = Lib.countByte (unpack n x) (UInt8.ofNat b) := by
  intro n
  induction n with
  | zero => intro x; rfl
  | succ n ih =>
    intro x
    rw [unpack_succ]
    change Nat.add (sel (Nat.beq (Nat.mod x 256) b) 1 0) (countB b n (x / 256)) = _
    rw [ih]
    unfold Lib.countByte
    rw [List.count_cons, byte_eq x b hb]
    show sel (Nat.beq (Nat.mod x 256) b) 1 0 + _ = _
    cases Nat.beq (Nat.mod x 256) b <;> simp [sel]; omega

theorem count_ok {f : FuncId} (hx : ExtOk P f Extern.BytealgCount.count) {args : List AV} {xs : Array Value} {r : CRes} {ar : ARes} (o : Oper) (a : Act) (hR : RW P.globals.size φ e h nx w)
    (ha : VRL φ e args xs.toList) (hs : countStringA args h nx = some r) (hr : resR r = some ar) :
    UponOk P o a ((callFunc f xs).run P w) (RVal P.globals.size φ e h nx w nx ar) (RPan P.globals.size φ e h nx w nx ar) := by
  obtain ⟨p, q, rfl, h1⟩ := two_some hs
  obtain ⟨n, z, rfl, h2⟩ := onStr_some h1
  obtain ⟨m, rfl, hm, h3⟩ := onByte_some h2
  cases h3
  cases hr
  have hxs : ∃ s : ByteArray, xs = #[.string s, .int .u8 (m : Int)] ∧ s.data.toList = unpack n z := by
    generalize hl : xs.toList = l at ha
    cases ha with
    | cons _ _ u us hu t =>
      cases t with
      | cons _ _ u' us' hu' t' =>
        cases t'
        obtain ⟨s, rfl, hst⟩ := hu.inv_str
        cases hu'.inv_int
        exact ⟨s, Array.toList_inj.1 (by simp [hl]), hst⟩
  obtain ⟨s, rfl, hst⟩ := hxs
  have hrun := run_ext hx #[.string s, .int .u8 (m : Int)] (Lib.run_countString (P := P) s (m : Int) w)
  rw [hrun]
  refine upon_val ⟨_, φ, h, nx, rfl, Post.refl hR nx, ?_⟩
  rw [countB_eq m hm n z, ← hst]
  have : ((m : Int).toNat.toUInt8) = UInt8.ofNat m := by simp
  rw [this]
  exact .int _ _

/-- one function without a body is summed up -/
noncomputable def specs1 (count : Nat) : Specs := fun f => sel (Nat.beq f count) (some countStringA) none
theorem specs1_ok {count : Nat} (hx : ExtOk P count Extern.BytealgCount.count) : SpecOk P (specs1 count) := by
  intro f s hs φ e h nx w args xs r ar o a hR ha hrun hr
  unfold specs1 at hs
  cases hb : Nat.beq f count with
  | false => rw [hb] at hs; cases hs
  | true =>
    rw [hb] at hs
    cases hs
    have := natBeq hb
    subst this
    exact count_ok hx o a hR ha hrun hr

/-- the world is as it was, but for new memory -/
structure Kept (w w' : World) : Prop where
  size : w.heap.size ≤ w'.heap.size
  keep : ∀ B, B < w.heap.size → w'.heap[B]? = w.heap[B]?
  os : w'.os = w.os
  tape : w'.tape = w.tape
  output : w'.output = w.output

/-- A CLOSED CALL: what the executor answers, the call answers -/
theorem closed_call (hdraw : DrawOk P) (hn : NamesOk P) {sp : Specs} (hsp : SpecOk P sp) {md : Bool} {loc : FuncId → Nat} {n depth nx0 : Nat} {f : FuncId} {fn : Func} (hf : P.funcs[f]? = some fn) (hspf : sp f = none)
    (hg : P.globals.size ≤ nx0) {b : Bool} {h' : Heap} {nx' : Nat} (hrun : callN P md sp loc n (depth + 1) f [] .none nx0 = some (.ret (.bool b) h' nx')) (w : World) :
    Calls P f #[] w fun
      | .returned v, w' => v = .bool b ∧ Kept w w'
      | .panicked _, _ => False
      | .outgrown, _ => False := by
  let φ : Ph := fun g => if g < P.globals.size then some ⟨g, 0, 0⟩ else none
  have hnil : ∀ x, hget .none x = none := fun x => by
    cases hb : low x with
    | true => rw [hget_low hb]; exact pget_nil _
    | false => rw [hget_high hb]; rfl
  have hR : RW P.globals.size φ (fun _ => .nilFunc) .none nx0 w := by
    refine ⟨fun x blk _ hx => (by rw [hnil] at hx; cases hx), fun x _ blk _ _ _ _ _ hx => (by rw [hnil] at hx; cases hx), fun x L hL => ?_, fun g hg => ⟨0, by simp [φ, hg]⟩, fun x blk _ hx => (by rw [hnil] at hx; cases hx), fun B hB => (by unfold exB at hB; cases hB)⟩
    by_cases hlt : x < P.globals.size
    · exact ⟨by omega, hok x⟩
    · simp [φ, hlt] at hL
  change callS P md sp loc n (callN P md sp loc n depth) f [] .none nx0 = some (.ret (.bool b) h' nx') at hrun
  unfold callS at hrun
  rw [hspf] at hrun
  obtain ⟨cf, hcf, h1⟩ := ob_some (x := cFunc P loc f) hrun
  obtain ⟨fn', c', hf', hb', rfl⟩ := cFunc_some hcf
  rw [hf] at hf'; cases hf'
  refine (runF_ok hdraw hn (callN_ok hdraw hn hsp depth) hf hb' hR (xs := #[]) .nil h1).mono fun en w' hen => ?_
  cases en with
  | returned v =>
    obtain ⟨av, φ', h2, nx2, he, hps, hv⟩ := hen
    cases he
    refine ⟨hv.inv_bool, hps.fr.size, fun B hB => hps.fr.keep B hB ?_, hps.fr.os, hps.fr.tape, hps.fr.output⟩
    rintro ⟨x, blk, L, _, hx, _⟩
    rw [hnil] at hx; cases hx
  | panicked chain =>
    obtain ⟨av, φ', h2, nx2, u, he, _⟩ := hen
    cases he
  | outgrown => exact hen.elim
end
end Go.AE

/-
A symbolic executor: an operation depends on the temporaries by its operands alone.
-/
namespace Go.AE

section
variable {P : Program} {cx : Cx} {nv nv' : Env} {tm tm' : TM}

/-- the operands of an operation are read alike -/
def Alike (cx : Cx) (nv nv' : Env) (tm tm' : TM) (op : Op) : Prop := ∀ x ∈ op.operands, (cO cx x).run nv tm = (cO cx x).run nv' tm'

theorem evL_alike {l : List Operand} (h : ∀ x ∈ l, (cO cx x).run nv tm = (cO cx x).run nv' tm') : evL (cOs cx l) nv tm = evL (cOs cx l) nv' tm' := by
  induction l with
  | nil => rfl
  | cons a l ih =>
    show ob ((cO cx a).run nv tm) (fun b => ob (evL (cOs cx l) nv tm) fun r => some (b :: r)) = ob ((cO cx a).run nv' tm') (fun b => ob (evL (cOs cx l) nv' tm') fun r => some (b :: r))
    rw [h a (by simp), ih (fun x hx => h x (by simp [hx]))]
theorem evOpt_alike {x : Option Operand} {d : Nat} (h : ∀ y, x = some y → (cO cx y).run nv tm = (cO cx y).run nv' tm') : evOpt (cOpt cx x) d nv tm = evOpt (cOpt cx x) d nv' tm' := by
  cases x with
  | none => rfl
  | some y =>
    show ob ((cO cx y).run nv tm) _ = ob ((cO cx y).run nv' tm') _
    rw [h y rfl]
theorem fillP_alike {place : Nat → Option (Nat × Nat)} : ∀ {parts : List (Nat × Operand)} {l : PL} (_ : placesOf cx place parts = some l) (_ : ∀ p ∈ parts, (cO cx p.2).run nv tm = (cO cx p.2).run nv' tm') (cs : List AV), fillP l nv tm cs = fillP l nv' tm' cs := by
  intro parts
  induction parts with
  | nil => intro l h1 h2 cs; cases h1; rfl
  | cons p parts ih =>
    intro l h1 h2 cs
    obtain ⟨b, q, hb, hq, rfl⟩ := mapO_cons h1
    obtain ⟨r, hpl, h4⟩ := ob_some (x := place p.1) hb
    cases h4
    show ob ((cO cx p.2).run nv tm) (fun v => guardB (Nat.beq (llen (cellsA v)) r.2) (ob (lsplice r.1 (cellsA v) cs) (fillP q nv tm))) =
      ob ((cO cx p.2).run nv' tm') (fun v => guardB (Nat.beq (llen (cellsA v)) r.2) (ob (lsplice r.1 (cellsA v) cs) (fillP q nv' tm')))
    rw [h2 p (by simp)]
    have : fillP q nv tm = fillP q nv' tm' := funext fun c => ih hq (fun p hp => h2 p (by simp [hp])) c
    rw [this]

/-- the run of a compiled operation, at one memory -/
def KSame (k : CK) (nv nv' : Env) (tm tm' : TM) : Prop := match k with
  | .rd f _ => ∀ h, f.run nv tm h = f.run nv' tm' h
  | .al f => ∀ id, f.run nv tm id = f.run nv' tm' id
  | .ac f => ∀ call h id nx, f.run call nv tm h id nx = f.run call nv' tm' h id nx
  | _ => True

theorem rFill_alike {z : List AV} {place : Nat → Option (Nat × Nat)} {parts : List (Nat × Operand)} (hp : ∀ p ∈ parts, (cO cx p.2).run nv tm = (cO cx p.2).run nv' tm') (h : Heap) :
    (rFill z (placesOf cx place parts)).run nv tm h = (rFill z (placesOf cx place parts)).run nv' tm' h := by
  cases hl : placesOf cx place parts with
  | none => rfl
  | some l =>
    show ob (fillP l nv tm z) _ = ob (fillP l nv' tm' z) _
    rw [fillP_alike hl hp]

theorem kind_local {op : Op} (h : Alike cx nv nv' tm tm' op) : KSame (cKind P cx op) nv nv' tm tm' := by
  have one : ∀ {x : Operand}, x ∈ op.operands → (cO cx x).run nv tm = (cO cx x).run nv' tm' := fun hx => h _ hx
  cases op with
  | move x => intro m; exact one (by simp [Op.operands])
  | assign x => intro m; exact one (by simp [Op.operands])
  | pick c a b =>
    intro m
    show ob ((cO cx c).run nv tm) (fun v => onBool v fun t => sel t ((cO cx a).run nv tm) ((cO cx b).run nv tm)) = ob ((cO cx c).run nv' tm') (fun v => onBool v fun t => sel t ((cO cx a).run nv' tm') ((cO cx b).run nv' tm'))
    rw [one (x := c) (by simp [Op.operands]), one (x := a) (by simp [Op.operands]), one (x := b) (by simp [Op.operands])]
  | alloc t =>
    show KSame (.al (aAlloc (zeroA P t) (szT P t))) nv nv' tm tm'
    unfold aAlloc
    split <;> exact fun _ => rfl
  | box t x =>
    intro id
    show ob ((cO cx x).run nv tm) _ = ob ((cO cx x).run nv' tm') _
    rw [one (x := x) (by simp [Op.operands])]
  | build t parts =>
    intro m
    have hp : ∀ p ∈ parts.toList, (cO cx p.2).run nv tm = (cO cx p.2).run nv' tm' := fun p hp => one (by
      simp only [Op.operands, List.mem_toArray, List.mem_map]
      exact ⟨p, hp, rfl⟩)
    show (rBuild P cx (und P t) (zeroA P t) parts.toList).run nv tm m = (rBuild P cx (und P t) (zeroA P t) parts.toList).run nv' tm' m
    unfold rBuild
    split
    · rename_i fs _
      cases allSz P fs.toList with
      | false => rfl
      | true =>
        unfold withZero
        split
        · exact rFill_alike hp m
        · rfl
    · unfold withZero
      split
      · split
        · exact rFill_alike hp m
        · rfl
      · rfl
    · rfl
  | buildSlice t len parts =>
    intro id
    have hp : ∀ p ∈ parts.toList, (cO cx p.2).run nv tm = (cO cx p.2).run nv' tm' := fun p hp => one (by
      simp only [Op.operands, List.mem_toArray, List.mem_map]
      exact ⟨p, hp, rfl⟩)
    show (aLit P cx len (und P t) parts.toList).run nv tm id = (aLit P cx len (und P t) parts.toList).run nv' tm' id
    unfold aLit
    split
    · split
      · rename_i s z _ _
        unfold aLit1
        split
        · rename_i l hl
          cases andB (Nat.beq (llen (cellsA z)) (s + 1)) (Nat.blt (Nat.mul len (s + 1)) 100000) with
          | false => rfl
          | true =>
            show ob (fillP l nv tm (repL (cellsA z) len)) _ = ob (fillP l nv' tm' (repL (cellsA z) len)) _
            rw [fillP_alike hl hp]
        · rfl
      · rfl
    · rfl
  | load t a =>
    intro m
    show ob ((cO cx a).run nv tm) _ = ob ((cO cx a).run nv' tm') _
    rw [one (x := a) (by simp [Op.operands])]
  | nilCheck x =>
    intro m
    show ob ((cO cx x).run nv tm) _ = ob ((cO cx x).run nv' tm') _
    rw [one (x := x) (by simp [Op.operands])]
  | binOp bo t x y yt =>
    intro m
    have hx := one (x := x) (by simp [Op.operands])
    have hy := one (x := y) (by simp [Op.operands])
    cases bo <;> (
      show ob ((cO cx x).run nv tm) (fun a => ob ((cO cx y).run nv tm) _) = ob ((cO cx x).run nv' tm') (fun a => ob ((cO cx y).run nv' tm') _)
      rw [hx, hy])
  | unOp uo t x =>
    intro m
    have hx := one (x := x) (by simp [Op.operands])
    cases uo <;> first
      | rfl
      | (show ob ((cO cx x).run nv tm) _ = ob ((cO cx x).run nv' tm') _
         rw [hx])
  | convert s d x =>
    have hx := one (x := x) (by simp [Op.operands])
    show KSame (cConvert P cx (und P s) (und P d) x) nv nv' tm tm'
    unfold cConvert
    cases isSl (und P d) with
    | true =>
      intro id
      show (aBytes P (und P s) (und P d) (cO cx x)).run nv tm id = _
      unfold aBytes
      split
      · unfold aBytes1
        split
        · show ob ((cO cx x).run nv tm) _ = ob ((cO cx x).run nv' tm') _
          rw [hx]
        · rfl
      · rfl
    | false =>
      intro m
      show (rConv P (und P s) (und P d) (cO cx x)).run nv tm m = _
      unfold rConv
      split
      · unfold rConvBytes
        split
        · show ob ((cO cx x).run nv tm) _ = ob ((cO cx x).run nv' tm') _
          rw [hx]
        · rfl
      · show ob ((cO cx x).run nv tm) _ = ob ((cO cx x).run nv' tm') _
        rw [hx]
      · show ob ((cO cx x).run nv tm) _ = ob ((cO cx x).run nv' tm') _
        rw [hx]
      · rfl
  | makeInterface t x =>
    intro m
    have hx := one (x := x) (by simp [Op.operands])
    show (rIface (und P t) t (cO cx x)).run nv tm m = _
    unfold rIface
    split
    · rfl
    · show ob ((cO cx x).run nv tm) _ = ob ((cO cx x).run nv' tm') _
      rw [hx]
    · rfl
  | makeFunc fn first cap =>
    intro m
    show (rFunc fn (cOs cx first.toList) (cOs cx cap.toList)).run nv tm m = _
    unfold rFunc
    split
    · show ob (evL (cOs cx first.toList) nv tm) (fun a => ob (evL (cOs cx cap.toList) nv tm) _) = ob (evL (cOs cx first.toList) nv' tm') (fun a => ob (evL (cOs cx cap.toList) nv' tm') _)
      rw [evL_alike (l := first.toList) (fun x hx => one (by simp [Op.operands]; exact .inl (by simpa using hx))), evL_alike (l := cap.toList) (fun x hx => one (by simp [Op.operands]; exact .inr (by simpa using hx)))]
    · rfl
  | makeMap t r =>
    intro id
    show (aMapT (und P t) (cOpt cx r)).run nv tm id = _
    cases r with
    | none => rfl
    | some x =>
      have hx := one (x := x) (by simp [Op.operands])
      show (aMapT (und P t) (some (cO cx x))).run nv tm id = (aMapT (und P t) (some (cO cx x))).run nv' tm' id
      unfold aMapT
      split
      · rename_i hc; cases hc
      · rename_i c _ _ hc _
        cases hc
        show ob ((cO cx x).run nv tm) _ = ob ((cO cx x).run nv' tm') _
        rw [hx]
      · rfl
  | makeSlice t l c =>
    intro id
    have hx := one (x := l) (by simp [Op.operands])
    have hy := one (x := c) (by simp [Op.operands])
    show (aMake P (und P t) (cO cx l) (cO cx c)).run nv tm id = _
    unfold aMake
    split
    · split
      · rename_i s z b _ _ _
        unfold aMake1
        cases andB (Nat.beq (llen (cellsA z)) (s + 1)) (Nat.blt b 100000) with
        | false => rfl
        | true =>
          show ob ((cO cx l).run nv tm) (fun a => ob ((cO cx c).run nv tm) _) = ob ((cO cx l).run nv' tm') (fun a => ob ((cO cx c).run nv' tm') _)
          rw [hx, hy]
      · rfl
    · rfl
  | slice t x lo hi mx =>
    intro m
    have hx := one (x := x) (by simp [Op.operands])
    have hlo : ∀ d, evOpt (cOpt cx lo) d nv tm = evOpt (cOpt cx lo) d nv' tm' := fun d => evOpt_alike (fun y hy => one (by simp [Op.operands, hy]))
    have hhi : ∀ d, evOpt (cOpt cx hi) d nv tm = evOpt (cOpt cx hi) d nv' tm' := fun d => evOpt_alike (fun y hy => one (by simp [Op.operands, hy]))
    have hmx : ∀ d, evOpt (cOpt cx mx) d nv tm = evOpt (cOpt cx mx) d nv' tm' := fun d => evOpt_alike (fun y hy => one (by simp [Op.operands, hy]))
    show (rSlice P (und P t) (cO cx x) (cOpt cx lo) (cOpt cx hi) (cOpt cx mx)).run nv tm m = _
    unfold rSlice
    split
    · split
      · show ob ((cO cx x).run nv tm) (fun v => onStr v (cutStr (cOpt cx lo) (cOpt cx hi) nv tm)) = ob ((cO cx x).run nv' tm') (fun v => onStr v (cutStr (cOpt cx lo) (cOpt cx hi) nv' tm'))
        rw [hx]
        have : cutStr (cOpt cx lo) (cOpt cx hi) nv tm = cutStr (cOpt cx lo) (cOpt cx hi) nv' tm' := by
          funext n z
          simp only [cutStr, hlo, hhi]
        rw [this]
      · rfl
    · split
      · rename_i n el _ _ _
        unfold withSz
        split
        · rename_i s _
          show ob ((cO cx x).run nv tm) (fun v => onPtr v (cutArr n (s + 1) (cOpt cx lo) (cOpt cx hi) nv tm m)) = ob ((cO cx x).run nv' tm') (fun v => onPtr v (cutArr n (s + 1) (cOpt cx lo) (cOpt cx hi) nv' tm' m))
          rw [hx]
          have : cutArr n (s + 1) (cOpt cx lo) (cOpt cx hi) nv tm m = cutArr n (s + 1) (cOpt cx lo) (cOpt cx hi) nv' tm' m := by
            funext b o
            simp only [cutArr, hlo, hhi]
          rw [this]
        · rfl
      · rfl
    · cases badMx (cOpt cx hi) (cOpt cx mx) with
      | true => rfl
      | false =>
        rename_i el _
        show (withSz (szT P el) fun s => rCutSlice s (cO cx x) (cOpt cx lo) (cOpt cx hi) (cOpt cx mx)).run nv tm m = (withSz (szT P el) fun s => rCutSlice s (cO cx x) (cOpt cx lo) (cOpt cx hi) (cOpt cx mx)).run nv' tm' m
        unfold withSz
        split
        · rename_i s _
          show ob ((cO cx x).run nv tm) (cutSlice (s + 1) (cOpt cx lo) (cOpt cx hi) (cOpt cx mx) nv tm) = ob ((cO cx x).run nv' tm') (cutSlice (s + 1) (cOpt cx lo) (cOpt cx hi) (cOpt cx mx) nv' tm')
          rw [hx]
          have : cutSlice (s + 1) (cOpt cx lo) (cOpt cx hi) (cOpt cx mx) nv tm = cutSlice (s + 1) (cOpt cx lo) (cOpt cx hi) (cOpt cx mx) nv' tm' := by
            funext v
            cases v <;> try rfl
            · rename_i b o len cap z
              show guardB (Nat.beq z (s + 1)) (cutAny (cOpt cx mx) (cOpt cx lo) (cOpt cx hi) nv tm b o len z cap) = guardB (Nat.beq z (s + 1)) (cutAny (cOpt cx mx) (cOpt cx lo) (cOpt cx hi) nv' tm' b o len z cap)
              congr 1
              cases cap with
              | some c => simp only [cutAny, cutKnown, hlo, hhi, hmx]
              | none =>
                cases mx with
                | none =>
                  show cutOpen (cOpt cx lo) (cOpt cx hi) nv tm b o len z = cutOpen (cOpt cx lo) (cOpt cx hi) nv' tm' b o len z
                  simp only [cutOpen, hlo, hhi]
                | some y =>
                  show cutShut (cOpt cx lo) (cOpt cx hi) (cOpt cx (some y)) nv tm b o len z = cutShut (cOpt cx lo) (cOpt cx hi) (cOpt cx (some y)) nv' tm' b o len z
                  simp only [cutShut, hlo, hhi, hmx]
            · show cutNil (cOpt cx lo) (cOpt cx hi) (cOpt cx mx) nv tm = cutNil (cOpt cx lo) (cOpt cx hi) (cOpt cx mx) nv' tm'
              simp only [cutNil, hlo, hhi, hmx]
          rw [this]
        · rfl
    · rfl
  | fieldAddr t x f =>
    intro m
    have hx := one (x := x) (by simp [Op.operands])
    show (withField (und P t) f fun fd => fieldAddrOf (szT P fd.type) fd.offset (cO cx x)).run nv tm m = _
    unfold withField
    split
    · split
      · rename_i fd _
        show (fieldAddrOf (szT P fd.type) fd.offset (cO cx x)).run nv tm m = (fieldAddrOf (szT P fd.type) fd.offset (cO cx x)).run nv' tm' m
        unfold fieldAddrOf
        split
        · show ob ((cO cx x).run nv tm) _ = ob ((cO cx x).run nv' tm') _
          rw [hx]
        · rfl
      · rfl
    · rfl
  | field t x f =>
    intro m
    have hx := one (x := x) (by simp [Op.operands])
    show (withField (und P t) f fun fd => rField (partK P fd.type) fd.offset (cO cx x)).run nv tm m = _
    unfold withField
    split
    · split
      · show ob ((cO cx x).run nv tm) _ = ob ((cO cx x).run nv' tm') _
        rw [hx]
      · rfl
    · rfl
  | indexAddr t x i =>
    intro m
    have hx := one (x := x) (by simp [Op.operands])
    have hy := one (x := i) (by simp [Op.operands])
    show (rIndexAddr P (und P t) (cO cx x) (cO cx i)).run nv tm m = _
    unfold rIndexAddr withSz
    split
    · split
      · show ob ((cO cx x).run nv tm) (fun a => ob ((cO cx i).run nv tm) _) = ob ((cO cx x).run nv' tm') (fun a => ob ((cO cx i).run nv' tm') _)
        rw [hx, hy]
      · rfl
    · split
      · show ob ((cO cx x).run nv tm) (fun a => ob ((cO cx i).run nv tm) _) = ob ((cO cx x).run nv' tm') (fun a => ob ((cO cx i).run nv' tm') _)
        rw [hx, hy]
      · rfl
    · rfl
  | index t x i =>
    intro m
    have hx := one (x := x) (by simp [Op.operands])
    have hy := one (x := i) (by simp [Op.operands])
    show (rIndex P (und P t) (cO cx x) (cO cx i)).run nv tm m = _
    unfold rIndex withSz
    split
    · show ob ((cO cx x).run nv tm) (fun a => ob ((cO cx i).run nv tm) _) = ob ((cO cx x).run nv' tm') (fun a => ob ((cO cx i).run nv' tm') _)
      rw [hx, hy]
    · split
      · show ob ((cO cx x).run nv tm) (fun a => ob ((cO cx i).run nv tm) _) = ob ((cO cx x).run nv' tm') (fun a => ob ((cO cx i).run nv' tm') _)
        rw [hx, hy]
      · rfl
    · rfl
  | lookup t x k ok =>
    intro m
    have hx := one (x := x) (by simp [Op.operands])
    have hy := one (x := k) (by simp [Op.operands])
    show (rLookup P (und P t) (cO cx x) (cO cx k) ok).run nv tm m = _
    unfold rLookup
    split
    · rename_i kt et _
      cases keyT P 4 kt with
      | false => rfl
      | true =>
        show (withZero (zeroA P et) fun z => rLook (eqT P 8 kt) z ok (cO cx x) (cO cx k)).run nv tm m = (withZero (zeroA P et) fun z => rLook (eqT P 8 kt) z ok (cO cx x) (cO cx k)).run nv' tm' m
        unfold withZero
        split
        · show ob ((cO cx x).run nv tm) (fun a => ob ((cO cx k).run nv tm) _) = ob ((cO cx x).run nv' tm') (fun a => ob ((cO cx k).run nv' tm') _)
          rw [hx, hy]
        · rfl
    · rfl
  | typeAssert x s t ok =>
    intro m
    have hx := one (x := x) (by simp [Op.operands])
    show (rAssert P (und P t) t ok (cO cx x)).run nv tm m = _
    unfold rAssert withZero
    split
    · rfl
    · split
      · show ob ((cO cx x).run nv tm) _ = ob ((cO cx x).run nv' tm') _
        rw [hx]
      · rfl
    · rfl
  | extract x i =>
    intro m
    show ob ((cO cx x).run nv tm) _ = ob ((cO cx x).run nv' tm') _
    rw [one (x := x) (by simp [Op.operands])]
  | store t a x =>
    intro call m id nx
    have hx := one (x := a) (by simp [Op.operands])
    have hy := one (x := x) (by simp [Op.operands])
    show (cStoreT (szT P t) (cO cx a) (cO cx x)).run call nv tm m id nx = _
    unfold cStoreT
    split
    · show ob ((cO cx a).run nv tm) (fun p => ob ((cO cx x).run nv tm) _) = ob ((cO cx a).run nv' tm') (fun p => ob ((cO cx x).run nv' tm') _)
      rw [hx, hy]
    · rfl
  | panic x =>
    intro call m id nx
    show ob ((cO cx x).run nv tm) _ = ob ((cO cx x).run nv' tm') _
    rw [one (x := x) (by simp [Op.operands])]
  | mapUpdate t a k v =>
    intro call m id nx
    have h1 := one (x := a) (by simp [Op.operands])
    have h2 := one (x := k) (by simp [Op.operands])
    have h3 := one (x := v) (by simp [Op.operands])
    show (cMapSetT P (und P t) (cO cx a) (cO cx k) (cO cx v)).run call nv tm m id nx = _
    unfold cMapSetT
    split
    · rename_i kt _ _
      cases keyT P 4 kt with
      | false => rfl
      | true =>
        show ob ((cO cx a).run nv tm) (fun p => ob ((cO cx k).run nv tm) fun q => ob ((cO cx v).run nv tm) _) = ob ((cO cx a).run nv' tm') (fun p => ob ((cO cx k).run nv' tm') fun q => ob ((cO cx v).run nv' tm') _)
        rw [h1, h2, h3]
    · rfl
  | insert t a k v =>
    intro call m id nx
    have h1 := one (x := a) (by simp [Op.operands])
    have h2 := one (x := k) (by simp [Op.operands])
    have h3 := one (x := v) (by simp [Op.operands])
    show (cMapSetT P (und P t) (cO cx a) (cO cx k) (cO cx v)).run call nv tm m id nx = _
    unfold cMapSetT
    split
    · rename_i kt _ _
      cases keyT P 4 kt with
      | false => rfl
      | true =>
        show ob ((cO cx a).run nv tm) (fun p => ob ((cO cx k).run nv tm) fun q => ob ((cO cx v).run nv tm) _) = ob ((cO cx a).run nv' tm') (fun p => ob ((cO cx k).run nv' tm') fun q => ob ((cO cx v).run nv' tm') _)
        rw [h1, h2, h3]
    · rfl
  | call c =>
    have hargs : ∀ x ∈ c.args.toList, (cO cx x).run nv tm = (cO cx x).run nv' tm' := fun x hx => one (by
      simp only [Op.operands, Call.operands, Array.mem_append]
      exact .inr (by simpa using hx))
    have hev := evL_alike hargs
    show KSame (cCall P cx c) nv nv' tm tm'
    unfold cCall
    split
    · rename_i b hc
      have h1 : ∀ x ∈ cOs cx c.args.toList, x.run nv tm = x.run nv' tm' := by
        intro x hx
        rw [cOs_map] at hx
        obtain ⟨y, hy, rfl⟩ := List.mem_map.1 hx
        exact hargs y hy
      cases isRd b with
      | true =>
        intro m
        show (rBuiltin b (undO P (headO c.argTypes.toList)) (cOs cx c.args.toList)).run nv tm m = _
        unfold rBuiltin
        split
        · rename_i x hx
          rw [hx] at h1
          have hx1 := h1 x (by simp)
          unfold rBuiltin1
          split
          · unfold rLen
            split <;> first
              | rfl
              | (show ob (x.run nv tm) _ = ob (x.run nv' tm') _
                 rw [hx1])
          · rfl
        · rename_i x y hx
          rw [hx] at h1
          have hx1 := h1 x (by simp)
          have hy1 := h1 y (by simp)
          unfold rBuiltin2
          split <;> first
            | rfl
            | (show ob (x.run nv tm) (fun a => ob (y.run nv tm) _) = ob (x.run nv' tm') (fun a => ob (y.run nv' tm') _)
               rw [hx1, hy1])
        · rfl
      | false =>
        cases isRc b with
        | true => exact True.intro
        | false =>
          intro call m id nx
          show (cBuiltin P b c.argTypes.toList (cOs cx c.args.toList)).run call nv tm m id nx = _
          unfold cBuiltin
          split
          · rename_i x hx
            rw [hx] at h1
            have hx1 := h1 x (by simp)
            unfold cBuiltin1
            split
            · show ob (x.run nv tm) _ = ob (x.run nv' tm') _
              rw [hx1]
            · rfl
          · rename_i x y hx
            rw [hx] at h1
            have hx1 := h1 x (by simp)
            have hy1 := h1 y (by simp)
            unfold cBuiltin2
            split
            · unfold cAppT
              split
              · split
                · rfl
                · split
                  · rename_i z b' v _ _ _
                    cases andB (Nat.blt b' 100000) (Nat.beq (llen (cellsA v)) (z + 1)) with
                    | false => rfl
                    | true =>
                      show ob (x.run nv tm) (fun a => ob (y.run nv tm) _) = ob (x.run nv' tm') (fun a => ob (y.run nv' tm') _)
                      rw [hx1, hy1]
                  · rfl
                · rfl
              · rfl
            · unfold cCopyT
              split
              · split
                · show ob (x.run nv tm) (fun a => ob (y.run nv tm) _) = ob (x.run nv' tm') (fun a => ob (y.run nv' tm') _)
                  rw [hx1, hy1]
                · rfl
              · rfl
            · rfl
          · rfl
    · intro call m id nx
      show ob (evL (cOs cx c.args.toList) nv tm) _ = ob (evL (cOs cx c.args.toList) nv' tm') _
      rw [hev]
    · rename_i f _ hc
      have hf := one (x := f) (by simp [Op.operands, Call.operands, hc])
      intro call m id nx
      show ob ((cO cx f).run nv tm) (fun v => onFunc v fun g first cap => ob (evL (cOs cx c.args.toList) nv tm) _) = ob ((cO cx f).run nv' tm') (fun v => onFunc v fun g first cap => ob (evL (cOs cx c.args.toList) nv' tm') _)
      rw [hf, hev]
    · rename_i f name hc
      have hf := one (x := f) (by simp [Op.operands, Call.operands, hc])
      intro call m id nx
      show ob ((cO cx f).run nv tm) (fun x => onIface x fun t v => ob (methT P name t) fun me => ob (methR m v me) fun q => ob (evL (cOs cx c.args.toList) nv tm) _) =
        ob ((cO cx f).run nv' tm') (fun x => onIface x fun t v => ob (methT P name t) fun me => ob (methR m v me) fun q => ob (evL (cOs cx c.args.toList) nv' tm') _)
      rw [hf, hev]
  | defer c =>
    show KSame (cDefer cx c) nv nv' tm tm'
    unfold cDefer
    split <;> exact True.intro
  | _ => exact True.intro
end
end Go.AE

/-
A symbolic executor: laws for regions whose order is open (tries by contents, more or fewer blocks in sight).
-/
namespace Go.AE

theorem exists_tm (dp : Nat) (g : Nat → Option AV) : ∃ tm : TM, ∀ j, j < 2 ^ dp → tget dp j tm = g j := ⟨.fn g, fun _ _ => rfl⟩

section
variable {P : Program} {φ φ' : Ph} {e : Syms} {h h' : Heap} {nx nx' : Nat} {w w' : World} {G : Nat}

/-- a new block that no heap has in sight yet -/
theorem RW.grow (hR : RW G φ e h nx w) {id : Nat} {L : Loc} (hid : φ id = none) (hlt : HOk id) (h1 : id < nx) (hf : Fresh w w') :
    RW G (upd φ id L) e h nx w' ∧ Frame φ h w (upd φ id L) h w' := by
  have hle : Phi.le φ (upd φ id L) := upd_le hid
  have hne : ∀ b blk, HOk b → hget h b = some blk → b ≠ id := by
    intro b blk hb hg e1
    obtain ⟨K, hK, _⟩ := hR.live b blk hb hg
    rw [e1, hid] at hK; cases hK
  constructor
  · refine ⟨fun b blk hb hg => ?_, fun b b' blk blk' K K' hb hb' hg hg' hK hK' hn hro => ?_, fun b K hK => ?_, fun g hg => ?_, fun b blk K hg hK hro => ?_, fun B hB => ?_⟩
    · obtain ⟨K, hK, hB⟩ := hR.live b blk hb hg
      exact ⟨K, hle _ _ hK, (hB.mono hle).same (hf.old _ hB.lt)⟩
    · rw [upd_ne _ _ (hne b blk hb hg)] at hK
      rw [upd_ne _ _ (hne b' blk' hb' hg')] at hK'
      exact hR.sep b b' blk blk' K K' hb hb' hg hg' hK hK' hn hro
    · by_cases hbi : b = id
      · subst hbi; exact ⟨h1, hlt⟩
      · rw [upd_ne _ _ hbi] at hK; exact hR.dom b K hK
    · obtain ⟨S, hS⟩ := hR.gl g hg
      exact ⟨S, hle _ _ hS⟩
    · rw [upd_ne _ _ (hne b blk (hok b) hg)] at hK
      exact hR.exo b blk K hg hK hro
    · have := hR.exb B hB; rw [hf.size]; omega
  · refine ⟨by rw [hf.size]; omega, fun B hB _ => hf.old B hB, ?_, hf.os, hf.tape, hf.output, rfl, ?_⟩
    rotate_left
    · rintro B ⟨b, blk, K, hg, hK, rfl⟩ _
      rw [upd_ne _ _ (hne b blk (hok b) hg)] at hK
      exact ⟨b, blk, K, hg, hK, rfl⟩
    rintro B ⟨b, blk, K, hb, hg, hK, rfl⟩ _
    rw [upd_ne _ _ (hne b blk (hok b) hg)] at hK
    exact ⟨b, blk, K, hb, hg, hK, rfl⟩

/-- more blocks come in sight: each with its place, none of them live, no two of one place -/
theorem RW.more (hR : RW G φ e h nx w) (hlo : h'.lo = h.lo) (hold : ∀ b blk, HOk b → hget h' b = some blk → hget h b = some blk ∨ ∃ L, φ b = some L ∧ BR φ e w L blk ∧ ¬ Here φ h L.B ∧ ¬ exB e L.B)
    (hsep : ∀ b b' blk blk' L L', HOk b → HOk b' → hget h' b = some blk → hget h' b' = some blk' → hget h b = none → hget h b' = none → φ b = some L → φ b' = some L' → b ≠ b' → L.B ≠ L'.B) :
    RW G φ e h' nx w := by
  refine ⟨fun b blk hb hg => ?_, fun b b' blk blk' L L' hb hb' hg hg' hL hL' hn hro => ?_, hR.dom, hR.gl, fun b blk L hg hL hro => ?_, hR.exb⟩
  · rcases hold b blk hb hg with h1 | ⟨L, hL, hB, _⟩
    · exact hR.live b blk hb h1
    · exact ⟨L, hL, hB⟩
  · rcases hold b blk hb hg with h1 | ⟨K, hK, hB, hnl, _⟩
    · rcases hold b' blk' hb' hg' with h2 | ⟨K', hK', hB', hnl', _⟩
      · exact hR.sep b b' blk blk' L L' hb hb' h1 h2 hL hL' hn (by rw [← hro_of_lo hlo b]; exact hro)
      · rw [hL'] at hK'; cases hK'
        exact fun e1 => hnl' ⟨b, blk, L, h1, hL, e1⟩
    · rw [hL] at hK; cases hK
      rcases hold b' blk' hb' hg' with h2 | ⟨K', hK', hB', hnl', _⟩
      · exact fun e1 => hnl ⟨b', blk', L', h2, hL', e1.symm⟩
      · cases hgb : hget h b with
        | some x =>
          exact absurd ⟨b, x, L, hgb, hL, rfl⟩ hnl
        | none =>
          cases hgb' : hget h b' with
          | some x =>
            rw [hL'] at hK'; cases hK'
            exact absurd ⟨b', x, L', hgb', hL', rfl⟩ hnl'
          | none => exact hsep b b' blk blk' L L' hb hb' hg hg' hgb hgb' hL hL' hn
  · rcases hold b blk (hok b) hg with h1 | ⟨K, hK, _, _, hne⟩
    · exact hR.exo b blk L h1 hL (by rw [← hro_of_lo hlo b]; exact hro)
    · rw [hL] at hK; cases hK; exact hne
end
end Go.AE

/-
A symbolic executor: equality told by a program is equality.
-/
namespace Go.AE

theorem beqN_ok {a b : Option Nat} (h : beqN a b = true) : a = b := by
  cases a <;> cases b <;> first | rfl | cases h | exact congrArg some (natBeq h)

theorem beqN_refl (a : Option Nat) : beqN a a = true := by
  cases a with
  | none => rfl
  | some n => exact Nat.beq_refl n
theorem beqK_refl (k : IntKind) : beqK k k = true := Nat.beq_refl _
theorem eqI_refl (n : Int) : eqI n n = true := by rw [eqI_eq]; simp
theorem andB_mk {a b : Bool} (ha : a = true) (hb : b = true) : andB a b = true := by rw [ha, hb]

/-- equality of lists, by the elements' -/
noncomputable def beqVL (l : List AV) : List AV → Bool := List.rec (motive := fun _ => List AV → Bool) bNil (fun a _ g m => bCons (beqV a) g m) l

theorem beqVL_eq (l : List AV) : (@AV.rec_1 (fun _ => AV → Bool) (fun _ => List AV → Bool) (fun a y => bBool y a) (fun k n y => bInt y k n) (fun n x y => bStr y n x) (fun b o y => bPtr y b o) bNilptr
  (fun b o n c s y => bSlice y b o n c s) bNilslice (fun r y => bMap y r) bNilmap (fun g _ _ fa fc y => bFunc y g fa fc) bNilFunc (fun t _ f y => bIface y t f) bNilIface (fun _ f y => bAgg y f) (fun _ f y => bTuple y f) (fun i y => bSym y i)
  bNil (fun _ _ f g m => bCons f g m) l) = beqVL l := by
  induction l with
  | nil => rfl
  | cons a l ih =>
    exact congrArg (bCons (beqV a)) ih
theorem beqV_agg (l : List AV) (y : AV) : beqV (.agg l) y = bAgg y (beqVL l) := by rw [← beqVL_eq]; rfl
theorem beqV_tuple (l : List AV) (y : AV) : beqV (.tuple l) y = bTuple y (beqVL l) := by rw [← beqVL_eq]; rfl
theorem beqV_func (g : FuncId) (a c : List AV) (y : AV) : beqV (.func g a c) y = bFunc y g (beqVL a) (beqVL c) := by rw [← beqVL_eq, ← beqVL_eq]; rfl
theorem beqV_iface (t : TypeId) (v y : AV) : beqV (.iface t v) y = bIface y t (beqV v) := rfl

theorem beqV_refl_all : (∀ x : AV, beqV x x = true) ∧ ∀ l : List AV, beqVL l l = true := by
  refine ⟨fun x => ?_, fun l => ?_⟩
  · refine @AV.rec (fun x => beqV x x = true) (fun l => beqVL l l = true) ?_ ?_ ?_ ?_ ?_ ?_ ?_ ?_ ?_ ?_ ?_ ?_ ?_ ?_ ?_ ?_ ?_ ?_ x
    · intro b; cases b <;> rfl
    · intro k n; exact andB_mk (beqK_refl k) (eqI_refl n)
    · intro n x; exact andB_mk (Nat.beq_refl n) (Nat.beq_refl x)
    · intro b o; exact andB_mk (Nat.beq_refl b) (Nat.beq_refl o)
    · rfl
    · intro b o n c s; exact andB_mk (Nat.beq_refl b) (andB_mk (Nat.beq_refl o) (andB_mk (Nat.beq_refl n) (andB_mk (beqN_refl c) (Nat.beq_refl s))))
    · rfl
    · intro r; exact Nat.beq_refl r
    · rfl
    · intro g a c ha hc; rw [beqV_func]; exact andB_mk (Nat.beq_refl g) (andB_mk ha hc)
    · rfl
    · intro t v hv; exact andB_mk (Nat.beq_refl t) hv
    · rfl
    · intro l hl; rw [beqV_agg]; exact hl
    · intro l hl; rw [beqV_tuple]; exact hl
    · intro i; exact Nat.beq_refl i
    · rfl
    · intro a l ha hl; exact andB_mk ha hl
  · refine @AV.rec_1 (fun x => beqV x x = true) (fun l => beqVL l l = true) ?_ ?_ ?_ ?_ ?_ ?_ ?_ ?_ ?_ ?_ ?_ ?_ ?_ ?_ ?_ ?_ ?_ ?_ l
    · intro b; cases b <;> rfl
    · intro k n; exact andB_mk (beqK_refl k) (eqI_refl n)
    · intro n x; exact andB_mk (Nat.beq_refl n) (Nat.beq_refl x)
    · intro b o; exact andB_mk (Nat.beq_refl b) (Nat.beq_refl o)
    · rfl
    · intro b o n c s; exact andB_mk (Nat.beq_refl b) (andB_mk (Nat.beq_refl o) (andB_mk (Nat.beq_refl n) (andB_mk (beqN_refl c) (Nat.beq_refl s))))
    · rfl
    · intro r; exact Nat.beq_refl r
    · rfl
    · intro g a c ha hc; rw [beqV_func]; exact andB_mk (Nat.beq_refl g) (andB_mk ha hc)
    · rfl
    · intro t v hv; exact andB_mk (Nat.beq_refl t) hv
    · rfl
    · intro l hl; rw [beqV_agg]; exact hl
    · intro l hl; rw [beqV_tuple]; exact hl
    · intro i; exact Nat.beq_refl i
    · rfl
    · intro a l ha hl; exact andB_mk ha hl
theorem beqV_refl (x : AV) : beqV x x = true := beqV_refl_all.1 x

theorem beqV_ok : ∀ {x y : AV}, beqV x y = true → x = y := by
  intro x
  refine @AV.rec (fun x => ∀ {y : AV}, beqV x y = true → x = y) (fun l => ∀ {m : List AV}, beqVL l m = true → l = m) ?_ ?_ ?_ ?_ ?_ ?_ ?_ ?_ ?_ ?_ ?_ ?_ ?_ ?_ ?_ ?_ ?_ ?_ x
  · intro a y h; cases y <;> first | cases h; done | (have : a = _ := eq_of_beq h; rw [this])
  · intro k a y h
    cases y <;> first
      | (cases h; done)
      | (obtain ⟨h1, h2⟩ := andB_true h
         rw [eqI_eq] at h2
         rw [beqK_eq h1, eq_of_beq h2])
  · intro a b y h
    cases y <;> first
      | (cases h; done)
      | (obtain ⟨h1, h2⟩ := andB_true h
         rw [natBeq h1, natBeq h2])
  · intro a b y h
    cases y <;> first
      | (cases h; done)
      | (obtain ⟨h1, h2⟩ := andB_true h
         rw [natBeq h1, natBeq h2])
  · intro y h; cases y <;> first | rfl | cases h
  · intro a b c d s y h
    cases y <;> first
      | (cases h; done)
      | (obtain ⟨h1, h2⟩ := andB_true h
         obtain ⟨h3, h4⟩ := andB_true h2
         obtain ⟨h5, h6⟩ := andB_true h4
         obtain ⟨h7, h8⟩ := andB_true h6
         rw [natBeq h1, natBeq h3, natBeq h5, beqN_ok h7, natBeq h8])
  · intro y h; cases y <;> first | rfl | cases h
  · intro a y h; cases y <;> first | (cases h; done) | rw [natBeq h]
  · intro y h; cases y <;> first | rfl | cases h
  · intro g a c iha ihc y h
    rw [beqV_func] at h
    cases y <;> first
      | (cases h; done)
      | (obtain ⟨h1, h2⟩ := andB_true h
         obtain ⟨h3, h4⟩ := andB_true h2
         rw [natBeq h1, iha h3, ihc h4])
  · intro y h; cases y <;> first | rfl | cases h
  · intro t v ih y h
    rw [beqV_iface] at h
    cases y <;> first
      | (cases h; done)
      | (obtain ⟨h1, h2⟩ := andB_true h
         rw [natBeq h1, ih h2])
  · intro y h; cases y <;> first | rfl | cases h
  · intro l ih y h; rw [beqV_agg] at h; cases y <;> first | (cases h; done) | rw [ih h]
  · intro l ih y h; rw [beqV_tuple] at h; cases y <;> first | (cases h; done) | rw [ih h]
  · intro i y h; cases y <;> first | (cases h; done) | rw [natBeq h]
  · intro m h; cases m with
    | nil => rfl
    | cons => cases h
  · intro a l iha ihl m h
    cases m with
    | nil => cases h
    | cons b m =>
      obtain ⟨h1, h2⟩ := andB_true h
      rw [iha h1, ihl h2]
end Go.AE

/-
A symbolic executor: which operations come ahead of which, in every order.
-/
namespace Go.AE

theorem hasBit_eq (m i : Nat) : hasBit m i = m.testBit i := by
  rw [Nat.testBit_eq_decide_div_mod_eq]
  unfold hasBit
  show Nat.beq (m / 2 ^ i % 2) 1 = decide (m / 2 ^ i % 2 = 1)
  cases hb : Nat.beq (m / 2 ^ i % 2) 1 with
  | true => exact (decide_eq_true (natBeq hb)).symm
  | false => exact (decide_eq_false (natBeq_false hb)).symm
theorem hasBit_or (a b i : Nat) : hasBit (Nat.lor a b) i = (hasBit a i || hasBit b i) := by
  rw [hasBit_eq, hasBit_eq, hasBit_eq]
  exact Nat.testBit_or a b i
theorem hasBit_pow (e i : Nat) : hasBit (Nat.pow 2 e) i = decide (e = i) := by
  rw [hasBit_eq]
  exact Nat.testBit_two_pow
theorem hasBit_add (m i j : Nat) : hasBit (addBit m i) j = (hasBit m j || decide (i = j)) := by
  unfold addBit
  rw [hasBit_or, hasBit_pow]

/-- the bits of one operation: its edges, and what comes ahead of those -/
theorem edgesBits_ok {i : Nat} {acc : List Nat} : ∀ {l : List Edge} {s : Nat}, edgesBits i acc l = some s →
    ∀ j, hasBit s j = true ↔ ∃ e ∈ l, Region.binds .any e = true ∧ e.on < i ∧ ∃ a, acc[i - 1 - e.on]? = some a ∧ (j = e.on ∨ hasBit a j = true) := by
  intro l
  induction l with
  | nil => intro s h j; cases h; simp [hasBit_zero]
  | cons x l ih =>
    intro s h j
    obtain ⟨s0, h0, h1⟩ := ob_some (x := edgesBits i acc l) h
    unfold edgeBits at h1
    cases hb : Region.binds .any x with
    | false =>
      rw [hb] at h1; cases h1
      rw [ih h0]
      simp [hb]
    | true =>
      rw [hb] at h1
      obtain ⟨h2, h3⟩ := guardB_some h1
      have h2 := natBlt h2
      obtain ⟨a, ha, h4⟩ := ob_some (x := lget acc (Nat.sub (Nat.sub i 1) x.on)) h3
      cases h4
      rw [lget_eq] at ha
      have ha : acc[i - 1 - x.on]? = some a := ha
      rw [hasBit_or, hasBit_or, hasBit_pow, Bool.or_eq_true, Bool.or_eq_true, ih h0]
      constructor
      · rintro (⟨e, he, h5⟩ | h5)
        · exact ⟨e, by simp [he], h5⟩
        · refine ⟨x, by simp, hb, h2, a, ha, ?_⟩
          rcases h5 with h5 | h5
          · exact .inl (of_decide_eq_true h5).symm
          · exact .inr h5
      · rintro ⟨e, he, h5⟩
        rcases List.mem_cons.1 he with rfl | he
        · right
          obtain ⟨_, _, a', ha', h6⟩ := h5
          rw [ha] at ha'; cases ha'
          rcases h6 with h6 | h6
          · exact .inl (decide_eq_true h6.symm)
          · exact .inr h6
        · exact .inl ⟨e, he, h5⟩

/-- all operations' bits, the latest first in 'acc' -/
theorem ancs_ok : ∀ {l : List Oper} {i : Nat} {acc r : List Nat}, acc.length = i → ancs l i acc = some r →
    r.length = l.length ∧ ∀ k o, l[k]? = some o → ∃ a, r[k]? = some a ∧ edgesBits (i + k) ((r.take k).reverse ++ acc) o.after.toList = some a := by
  intro l
  induction l with
  | nil => intro i acc r _ h; cases h; exact ⟨rfl, fun k o hk => by simp at hk⟩
  | cons o l ih =>
    intro i acc r hi h
    obtain ⟨a, ha, h1⟩ := ob_some (x := edgesBits i acc o.after.toList) h
    obtain ⟨q, hq, h2⟩ := ob_some (x := ancs l (Nat.succ i) (a :: acc)) h1
    cases h2
    obtain ⟨h3, h4⟩ := ih (i := i + 1) (acc := a :: acc) (by simp [hi]) hq
    refine ⟨by simp [h3], fun k o' hk => ?_⟩
    cases k with
    | zero => simp at hk; subst hk; exact ⟨a, rfl, by simpa using ha⟩
    | succ k =>
      obtain ⟨a', ha', h5⟩ := h4 k o' (by simpa using hk)
      refine ⟨a', by simpa using ha', ?_⟩
      rw [show i + (k + 1) = i + 1 + k by omega]
      simpa using h5

/-- what comes ahead of an operation in every order -/
def Ahead (r : List Nat) (j i : Nat) : Prop := ∃ a, r[i]? = some a ∧ hasBit a j = true

theorem ahead_iff {l : List Oper} {r : List Nat} (h : ancs l 0 [] = some r) {i : Nat} {o : Oper} (ho : l[i]? = some o) (j : Nat) :
    Ahead r j i ↔ ∃ e ∈ o.after.toList, Region.binds .any e = true ∧ e.on < i ∧ (j = e.on ∨ Ahead r j e.on) := by
  obtain ⟨hlen, hall⟩ := ancs_ok (acc := []) rfl h
  obtain ⟨a, ha, he⟩ := hall i o ho
  simp only [List.length_nil, Nat.zero_add, List.append_nil] at he
  have hil : i < r.length := (List.getElem?_eq_some_iff.1 ha).1
  have hget : ∀ e : Nat, e < i → ((r.take i).reverse)[i - 1 - e]? = r[e]? := by
    intro e hei
    rw [List.getElem?_reverse (by simp; omega)]
    simp only [List.length_take, Nat.min_eq_left (Nat.le_of_lt hil)]
    rw [List.getElem?_take, if_pos (by omega)]
    congr 1; omega
  have hb := edgesBits_ok he j
  constructor
  · rintro ⟨a', ha', h1⟩
    rw [ha] at ha'; cases ha'
    obtain ⟨e, hmem, h2, h3, b, hb1, h4⟩ := hb.1 h1
    rw [hget _ h3] at hb1
    exact ⟨e, hmem, h2, h3, h4.imp id fun h5 => ⟨b, hb1, h5⟩⟩
  · rintro ⟨e, hmem, h2, h3, h4⟩
    refine ⟨a, ha, hb.2 ⟨e, hmem, h2, h3, r[e.on], by rw [hget _ h3]; exact List.getElem?_eq_getElem (by omega), ?_⟩⟩
    rcases h4 with h4 | ⟨b, hb1, h5⟩
    · exact .inl h4
    · rw [List.getElem?_eq_getElem (show e.on < r.length by omega)] at hb1
      cases hb1
      exact .inr h5

theorem ahead_lt {l : List Oper} {r : List Nat} (h : ancs l 0 [] = some r) : ∀ {i j : Nat}, Ahead r j i → j < i := by
  intro i
  induction i using Nat.strongRecOn with
  | _ i ih =>
    intro j hj
    have hlen := (ancs_ok (acc := []) rfl h).1
    obtain ⟨a, ha, _⟩ := id hj
    have hil : i < l.length := by rw [← hlen]; exact (List.getElem?_eq_some_iff.1 ha).1
    obtain ⟨e, _, _, h3, h4⟩ := (ahead_iff h (List.getElem?_eq_getElem hil) j).1 hj
    rcases h4 with h4 | h4
    · omega
    · have := ih e.on h3 h4; omega
end Go.AE

/-
A symbolic executor: what a plan has checked.
-/
namespace Go.AE

theorem allB_ok {α : Type} {p : α → Bool} : ∀ {l : List α}, allB p l = true → ∀ x ∈ l, p x = true := by
  intro l
  induction l with
  | nil => intro _ x hx; cases hx
  | cons a l ih =>
    intro h x hx
    obtain ⟨h1, h2⟩ := andB_true h
    rcases List.mem_cons.1 hx with rfl | hx
    · exact h1
    · exact ih h2 x hx

theorem dstIx_none {t : Tmp} : ∀ {l : List Oper} {i : Nat}, dstIx t l i = none → ∀ o ∈ l, o.dst ≠ some t := by
  intro l
  induction l with
  | nil => intro i _ o ho; cases ho
  | cons a l ih =>
    intro i h o ho
    change sel (isDst t a.dst) (some i) (dstIx t l (i + 1)) = none at h
    cases hb : isDst t a.dst with
    | true => rw [hb] at h; cases h
    | false =>
      rw [hb] at h
      rcases List.mem_cons.1 ho with rfl | ho
      · intro e
        rw [e] at hb
        change Nat.beq t t = false at hb
        rw [Nat.beq_refl] at hb; cases hb
      · exact ih h o ho

theorem opersOk_get {all : List Oper} {ra : List Nat} : ∀ {l : List Oper} {i : Nat} {a : List Nat}, opersOk all ra l i a = true → ∀ k o, l[k]? = some o → ∃ x, a[k]? = some x ∧ operOk all ra (i + k) o x = true := by
  intro l
  induction l with
  | nil => intro i a _ k o hk; simp at hk
  | cons b l ih =>
    intro i a h k o hk
    cases a with
    | nil => cases h
    | cons x a =>
      obtain ⟨h1, h2⟩ := andB_true h
      cases k with
      | zero => simp at hk; subst hk; exact ⟨x, rfl, h1⟩
      | succ k =>
        obtain ⟨y, hy, h3⟩ := ih (i := i + 1) (a := a) h2 k o (by simpa using hk)
        exact ⟨y, by simpa using hy, by rw [show i + (k + 1) = i + 1 + k by omega]; exact h3⟩

/-- what is known of a region's plan -/
structure PlanOk (l : List Oper) (r : List Nat) : Prop where
  len : r.length = l.length
  /-- no two operations write one temporary -/
  dst : ∀ (i k : Nat) (o p : Oper) (d : Tmp), l[i]? = some o → l[k]? = some p → o.dst = some d → p.dst = some d → i = k
  /-- what an operation reads of the region's own comes ahead of it, or is written behind it -/
  opd : ∀ (i : Nat) (o : Oper) (t : Tmp), l[i]? = some o → Operand.tmp t ∈ o.op.operands.toList → ∀ (k : Nat) (p : Oper), l[k]? = some p → p.dst = some t → Ahead r k i ∨ k = i ∨ Ahead r i k
  grd : ∀ (i : Nat) (o : Oper) (j : Nat) (want : Bool), l[i]? = some o → o.guard = some (j, want) → Ahead r j i

theorem planOk_of {l : List Oper} {r : List Nat} (h : ancs l 0 [] = some r) (hok : opersOk l r l 0 r = true) : PlanOk l r := by
  have hfirst : ∀ i o d, l[i]? = some o → o.dst = some d → dstIx d l 0 = some i := by
    intro i o d ho hd
    obtain ⟨x, _, h1⟩ := opersOk_get hok i o ho
    obtain ⟨h2, _⟩ := andB_true h1
    rw [hd, Nat.zero_add] at h2
    change isIx i (dstIx d l 0) = true at h2
    cases hx : dstIx d l 0 with
    | none => rw [hx] at h2; cases h2
    | some j => rw [hx] at h2; rw [natBeq h2]
  refine ⟨(ancs_ok (acc := []) rfl h).1, fun i k o p d ho hp hd hd' => ?_, fun i o t ho hx k p hp hd => ?_, fun i o j want ho hg => ?_⟩
  · have h1 := hfirst i o d ho hd
    rw [hfirst k p d hp hd'] at h1
    cases h1; rfl
  · obtain ⟨x, hxa, h1⟩ := opersOk_get hok i o ho
    obtain ⟨_, h2⟩ := andB_true h1
    obtain ⟨_, h3⟩ := andB_true h2
    have h4 := allB_ok h3 _ hx
    change ordB r (0 + i) x (dstIx t l 0) = true at h4
    rw [hfirst k p t hp hd, Nat.zero_add] at h4
    change sel (hasBit x k) true (sel (Nat.beq k i) true (obB (lget r k) fun b => hasBit b i)) = true at h4
    cases hb : hasBit x k with
    | true => exact .inl ⟨x, hxa, hb⟩
    | false =>
      rw [hb] at h4
      cases hki : Nat.beq k i with
      | true => exact .inr (.inl (natBeq hki))
      | false =>
        rw [hki] at h4
        change obB (lget r k) (fun b => hasBit b i) = true at h4
        cases hg : lget r k with
        | none => rw [hg] at h4; cases h4
        | some b =>
          rw [hg] at h4
          rw [lget_eq] at hg
          exact .inr (.inr ⟨b, hg, h4⟩)
  · obtain ⟨x, hxa, h1⟩ := opersOk_get hok i o ho
    obtain ⟨_, h2⟩ := andB_true h1
    obtain ⟨h3, _⟩ := andB_true h2
    rw [hg] at h3
    exact ⟨x, hxa, h3⟩
end Go.AE
