/-
Texts of the proof, joined: AEDraw4, AEDraw5, AEDraw6, AEDraw7, AEDraw8, AEDraw9, AEDraw10, AEDraw11, AEDraw12.
-/
import Derived.Test.YtaajedkbaahgfaaGreatDoorA4
set_option linter.unusedSimpArgs false
set_option linter.unusedVariables false
set_option linter.unusedSectionVars false
/-
A symbolic executor: the canonical run of a region whose order is open.
-/
namespace Go.AE

theorem subB_ok {a b : Nat} (h : subB a b = true) {j : Nat} (hj : hasBit a j = true) : hasBit b j = true := by
  have he : Nat.land a b = a := natBeq h
  rw [hasBit_eq] at hj ⊢
  rw [← he] at hj
  have : (a &&& b).testBit j = true := hj
  rw [Nat.testBit_and, Bool.and_eq_true] at this
  exact this.2

/-- what is known of an operation that is done: its result, the block that it made, the phase in which it is told canonically -/
structure Rec where
  val : AV
  blk : Option Blk
  ph : Nat
  /-- is it an effect? -/
  act : Bool
abbrev VT := Nat → Option Rec

/-- does an operation that is done write a temporary? -/
def Wrote (l : List Oper) (V : VT) (t : Tmp) (v : AV) : Prop := ∃ (j : Nat) (o : Oper) (rc : Rec), l[j]? = some o ∧ o.dst = some t ∧ V j = some rc ∧ v = rc.val

/-- the temporaries behind what is done -/
structure TLOk (l : List Oper) (V : VT) (dp : Nat) (tm tl : TM) : Prop where
  yes : ∀ t v, t < 2 ^ dp → Wrote l V t v → tget dp t tl = some v
  no : ∀ t, t < 2 ^ dp → (∀ v, ¬ Wrote l V t v) → tget dp t tl = tget dp t tm

def Extends (V W : VT) : Prop := ∀ j rc, V j = some rc → W j = some rc

/-- the table of an operation: all that comes ahead of it, as told; it itself, and what comes behind it, are not in it -/
structure AtOp (r : List Nat) (V : VT) (i : Nat) (W : VT) : Prop where
  yes : ∀ j, Ahead r j i → ∃ rc, V j = some rc ∧ W j = some rc
  no : ∀ k, k = i ∨ Ahead r i k → W k = none

theorem tmp_alike {l : List Oper} {r : List Nat} (hp : PlanOk l r) {V W U : VT} {dp : Nat} {tm tl TL : TM} (h1 : TLOk l W dp tm tl) (h2 : TLOk l U dp tm TL) {i : Nat} {o : Oper} (ho : l[i]? = some o)
    (hW : AtOp r V i W) (hU : AtOp r V i U) {t : Tmp} (ht : t < 2 ^ dp) (hx : Operand.tmp t ∈ o.op.operands.toList) : tget dp t tl = tget dp t TL := by
  by_cases hw : ∃ (k : Nat) (p : Oper), l[k]? = some p ∧ p.dst = some t
  · obtain ⟨k, p, hk, hd⟩ := hw
    have hone : ∀ (q : Nat) (p' : Oper), l[q]? = some p' → p'.dst = some t → q = k := fun q p' hq hd' => hp.dst q k p' p t hq hk hd' hd
    rcases hp.opd i o t ho hx k p hk hd with h3 | h3
    · obtain ⟨rc, hrc, hrW⟩ := hW.yes k h3
      obtain ⟨rc', hrc', hrU⟩ := hU.yes k h3
      rw [hrc] at hrc'; cases hrc'
      rw [h1.yes t rc.val ht ⟨k, p, rc, hk, hd, hrW, rfl⟩, h2.yes t rc.val ht ⟨k, p, rc, hk, hd, hrU, rfl⟩]
    · have e1 := hW.no k (h3.imp id id)
      have e2 := hU.no k (h3.imp id id)
      rw [h1.no t ht, h2.no t ht]
      · rintro v ⟨q, p', rc, hq, hd', hV, _⟩
        rw [hone q p' hq hd', e2] at hV; cases hV
      · rintro v ⟨q, p', rc, hq, hd', hV, _⟩
        rw [hone q p' hq hd', e1] at hV; cases hV
  · rw [h1.no t ht (fun v ⟨k, p, _, hk, hd, _⟩ => hw ⟨k, p, hk, hd⟩), h2.no t ht (fun v ⟨k, p, _, hk, hd, _⟩ => hw ⟨k, p, hk, hd⟩)]

theorem alike_of {l : List Oper} {r : List Nat} (hp : PlanOk l r) {V W U : VT} {dp G : Nat} {tm tl TL : TM} (h1 : TLOk l W dp tm tl) (h2 : TLOk l U dp tm TL) {i : Nat} {o : Oper} (ho : l[i]? = some o)
    (hW : AtOp r V i W) (hU : AtOp r V i U) : Alike ⟨dp, 0, [], G⟩ [] [] tl TL o.op := by
  intro x hx
  cases x with
  | tmp t =>
    show (sel (hasBit 0 t) coNone (sel (Nat.blt t (Nat.pow 2 dp)) (coTmp (pathOf dp t) t) coNone)).run [] tl = (sel (hasBit 0 t) coNone (sel (Nat.blt t (Nat.pow 2 dp)) (coTmp (pathOf dp t) t) coNone)).run [] TL
    rw [hasBit_zero]
    cases hlt : Nat.blt t (Nat.pow 2 dp) with
    | false => rfl
    | true => exact tmp_alike hp h1 h2 ho hW hU (natBlt hlt) (by simpa using hx)
  | const v =>
    show (coConst (ofValue 4 v)).run [] tl = (coConst (ofValue 4 v)).run [] TL
    cases ofValue 4 v <;> rfl
  | global g =>
    show (sel (Nat.blt g G) (coVal (.ptr g 0)) coNone).run [] tl = (sel (Nat.blt g G) (coVal (.ptr g 0)) coNone).run [] TL
    cases Nat.blt g G <;> rfl
  | func f => rfl

theorem wrote_one {l : List Oper} {r : List Nat} (hp : PlanOk l r) {V : VT} {t : Tmp} {v u : AV} (h1 : Wrote l V t v) (h2 : Wrote l V t u) : v = u := by
  obtain ⟨j, o, rc, hj, hd, hV, rfl⟩ := h1
  obtain ⟨k, p, rc', hk, hd', hV', rfl⟩ := h2
  obtain rfl := hp.dst j k o p t hj hk hd hd'
  rw [hV] at hV'; cases hV'; rfl

/-- the temporaries behind a table -/
theorem exists_tl {l : List Oper} {r : List Nat} (hp : PlanOk l r) (V : VT) (dp : Nat) (tm : TM) : ∃ tl, TLOk l V dp tm tl := by
  obtain ⟨tl, htl⟩ := exists_tm dp (fun t => open Classical in if hx : ∃ v, Wrote l V t v then some (Classical.choose hx) else tget dp t tm)
  refine ⟨tl, fun t v ht hw => ?_, fun t ht hw => ?_⟩
  · have hx : ∃ v, Wrote l V t v := ⟨v, hw⟩
    rw [htl t ht, dif_pos hx, wrote_one hp (Classical.choose_spec hx) hw]
  · have hx : ¬ ∃ v, Wrote l V t v := fun ⟨v, h⟩ => hw v h
    rw [htl t ht, dif_neg hx]
end Go.AE

/-
A symbolic executor: the looks that ask no memory.
-/
namespace Go.AE

section
variable {P : Program} {cx : Cx} {nv : Env} {tm : TM}

/-- a look that is said to ask no memory asks none -/
theorem rd_quiet {op : Op} {f : RD} (hk : cKind P cx op = .rd f false) (h h' : Heap) : f.run nv tm h = f.run nv tm h' := by
  cases op with
  | build t parts =>
    cases hk
    unfold rBuild
    split
    · rename_i fs _
      cases allSz P fs.toList with
      | false => rfl
      | true =>
        unfold withZero
        split
        · unfold rFill; split <;> rfl
        · rfl
    · unfold withZero
      split
      · split
        · unfold rFill; split <;> rfl
        · rfl
      · rfl
    · rfl
  | binOp bo t x y yt => cases hk; cases bo <;> rfl
  | unOp uo t x => cases hk; cases uo <;> rfl
  | makeInterface t x => cases hk; unfold rIface; split <;> rfl
  | makeFunc fn a c => cases hk; unfold rFunc; split <;> rfl
  | fieldAddr t x i =>
    cases hk
    unfold withField
    split
    · split
      · rename_i fd _
        show (fieldAddrOf (szT P fd.type) fd.offset (cO cx x)).run nv tm h = (fieldAddrOf (szT P fd.type) fd.offset (cO cx x)).run nv tm h'
        unfold fieldAddrOf; split <;> rfl
      · rfl
    · rfl
  | field t x i =>
    cases hk
    unfold withField
    split
    · split <;> rfl
    · rfl
  | indexAddr t x i => cases hk; unfold rIndexAddr withSz; split <;> first | rfl | (split <;> rfl)
  | index t x i => cases hk; unfold rIndex withSz; split <;> first | rfl | (split <;> rfl)
  | typeAssert x s t ok => cases hk; unfold rAssert withZero; split <;> first | rfl | (split <;> rfl)
  | convert s d x =>
    change cConvert P cx (und P s) (und P d) x = .rd f false at hk
    unfold cConvert at hk
    cases hs : isSl (und P d) <;> rw [hs] at hk <;> cases hk
  | call c =>
    change cCall P cx c = .rd f false at hk
    unfold cCall at hk
    split at hk
    · rename_i b _
      cases hr : isRd b with
      | true => rw [hr] at hk; cases hk
      | false =>
        rw [hr] at hk
        cases hc : isRc b <;> rw [hc] at hk <;> cases hk
    · cases hk
    · cases hk
    · cases hk
  | defer c =>
    change cDefer cx c = .rd f false at hk
    unfold cDefer at hk
    split at hk <;> cases hk
  | _ => first | (cases hk; done) | (cases hk; rfl)
end
end Go.AE

/-
A symbolic executor: the canonical run of a region whose order is open: small laws.
-/
namespace Go.AE

theorem popBits_le (m : Nat) : ∀ (es : List Nat) (k : Nat), (∀ i e, es[i]? = some e → hasBit m e = true → i < k) → popBits m es ≤ k := by
  intro es
  induction es with
  | nil => intro k _; exact Nat.zero_le _
  | cons e es ih =>
    intro k h
    show sel (hasBit m e) (Nat.succ (popBits m es)) (popBits m es) ≤ k
    cases hb : hasBit m e with
    | false =>
      refine ih k (fun i x hx hbx => ?_)
      have := h (i + 1) x (by simpa using hx) hbx
      omega
    | true =>
      have h0 := h 0 e rfl hb
      obtain ⟨k, rfl⟩ : ∃ k', k = k' + 1 := ⟨k - 1, by omega⟩
      refine Nat.succ_le_succ (ih k (fun i x hx hbx => ?_))
      have := h (i + 1) x (by simpa using hx) hbx
      omega

/-- the older memories at which a look has been told again -/
theorem sameOld_ok {f : RD} {tl : TM} {v : AV} : ∀ {n : Nat} {old : List Heap}, sameOld f tl v n old = true → ∀ i, i < n → ∃ X, old[i]? = some X ∧ f.run [] tl X = some v := by
  intro n
  induction n with
  | zero => intro old _ i hi; omega
  | succ n ih =>
    intro old h i hi
    cases old with
    | nil => cases h
    | cons X old =>
      obtain ⟨h1, h2⟩ := andB_true h
      cases i with
      | zero =>
        refine ⟨X, rfl, ?_⟩
        change obB (f.run [] tl X) (fun u => beqV v u) = true at h1
        cases hr : f.run [] tl X with
        | none => rw [hr] at h1; cases h1
        | some u => rw [hr] at h1; rw [beqV_ok h1]
      | succ i => simpa using ih h2 i (by omega)

theorem zipA_get : ∀ {l : List (CP × Bool)} {k : Nat} {a : List Nat} {j : Nat} {c : CA}, (zipA l k a)[j]? = some c ↔ ∃ p x, l[j]? = some p ∧ a[j]? = some x ∧ c = ⟨k + j, x, p.1, p.2⟩ := by
  intro l
  induction l with
  | nil => intro k a j c; show ([] : List CA)[j]? = some c ↔ _; simp
  | cons p l ih =>
    intro k a j c
    cases a with
    | nil => show ([] : List CA)[j]? = some c ↔ _; simp
    | cons x a =>
      show (⟨k, x, p.1, p.2⟩ :: zipA l (k + 1) a)[j]? = some c ↔ _
      cases j with
      | zero => simp [eq_comm]
      | succ j =>
        rw [List.getElem?_cons_succ, ih]
        simp only [List.getElem?_cons_succ]
        rw [show k + 1 + j = k + (j + 1) by omega]
end Go.AE

/-
A symbolic executor: the canonical run of a region whose order is open: what is known of the operations that are done.
-/
namespace Go.AE

/-- a phase: the memory ahead of its effect and behind it, the next number behind it, the effect's place -/
structure Phs where
  pre : Heap
  post : Heap
  nx : Nat
  ix : Nat
abbrev HT := Nat → Option Phs
def HExt (T U : HT) : Prop := ∀ p x, T p = some x → U p = some x
def heapAt (h : Heap) (T : HT) : Nat → Option Heap
  | 0 => some h
  | p + 1 => (T p).map (·.post)
def nxAt (n : Nat) (T : HT) : Nat → Option Nat
  | 0 => some n
  | p + 1 => (T p).map (·.nx)
theorem heapAt_mono {h C : Heap} {T U : HT} (hx : HExt T U) {p : Nat} (hc : heapAt h T p = some C) : heapAt h U p = some C := by
  cases p with
  | zero => exact hc
  | succ p =>
    change (T p).map (fun x => x.post) = some C at hc
    show (U p).map (fun x => x.post) = some C
    cases hT : T p with
    | none => rw [hT] at hc; cases hc
    | some x => rw [hT] at hc; rw [hx p x hT]; exact hc
theorem nxAt_mono {n m : Nat} {T U : HT} (hx : HExt T U) {p : Nat} (hc : nxAt n T p = some m) : nxAt n U p = some m := by
  cases p with
  | zero => exact hc
  | succ p =>
    change (T p).map (fun x => x.nx) = some m at hc
    show (U p).map (fun x => x.nx) = some m
    cases hT : T p with
    | none => rw [hT] at hc; cases hc
    | some x => rw [hT] at hc; rw [hx p x hT]; exact hc

/-- what stands fast while a region is gone through -/
structure DC0 where
  P : Program
  N : Nat
  dp : Nat
  L : Nat
  l : List Oper
  r : List Nat
  es : List Nat
  call : CallF
  tm : TM
  base : Nat
  h0 : Heap
  n0 : Nat
def DC0.cx (D : DC0) : Cx := ⟨D.dp, 0, [], D.P.globals.size⟩
/-- an operation of the region's plan -/
noncomputable def DC0.ca (D : DC0) (j : Nat) (o : Oper) (anc : Nat) : CA := ⟨j, anc, cOp D.P D.N D.cx D.l o, isGl D.L o.dst⟩

/-- a memory that holds what stands ahead of a phase, and blocks that are made in it -/
def Sub (D : DC0) (V : VT) (T : HT) (p : Nat) (M : Heap) : Prop :=
  ∃ C, heapAt D.h0 T p = some C ∧ M.lo = C.lo ∧ ∀ b blk, HOk b → hget M b = some blk → hget C b = some blk ∨ ∃ j rc, V j = some rc ∧ rc.ph = p ∧ rc.blk = some blk ∧ b = D.base + j
theorem Sub.mono {D : DC0} {V W : VT} {T U : HT} {p : Nat} {M : Heap} (h : Sub D V T p M) (hv : Extends V W) (ht : HExt T U) : Sub D W U p M := by
  obtain ⟨C, h1, hlo, h2⟩ := h
  refine ⟨C, heapAt_mono ht h1, hlo, fun b blk hb6 hb => ?_⟩
  rcases h2 b blk hb6 hb with h3 | ⟨j, rc, h4, h5⟩
  · exact .inl h3
  · exact .inr ⟨j, rc, hv _ _ h4, h5⟩

/-- at every table of the operation -/
def Ever (D : DC0) (V : VT) (i : Nat) (X : TM → Prop) : Prop := ∀ W TL, AtOp D.r V i W → TLOk D.l W D.dp D.tm TL → X TL
theorem Extends.trans {V W U : VT} (a : Extends V W) (b : Extends W U) : Extends V U := fun j rc h => b _ _ (a _ _ h)
theorem Extends.refl (V : VT) : Extends V V := fun _ _ h => h
theorem HExt.refl (V : HT) : HExt V V := fun _ _ h => h
theorem HExt.trans {V W U : HT} (a : HExt V W) (b : HExt W U) : HExt V U := fun j rc h => b _ _ (a _ _ h)
theorem Ever.mono {D : DC0} {V W : VT} {i : Nat} {X : TM → Prop} (h : Ever D V i X) (hd : ∀ j, Ahead D.r j i → ∃ rc, V j = some rc) (hv : Extends V W) : Ever D W i X := fun U TL hu ht => h U TL ⟨fun j hj => by
  obtain ⟨rc, hrc⟩ := hd j hj
  obtain ⟨rc', h1, h2⟩ := hu.yes j hj
  rw [hv _ _ hrc] at h1; cases h1
  exact ⟨rc, hrc, h2⟩, hu.no⟩ ht

def KFact (D : DC0) (V : VT) (T : HT) (j anc : Nat) (rc : Rec) (k : CK) : Prop := match k with
  | .rd f _ => rc.act = false ∧ rc.blk = none ∧ ∀ p, popBits anc D.es ≤ p → p ≤ rc.ph → ∃ M, Sub D V T p M ∧ Ever D V j fun TL => f.run [] TL M = some rc.val
  | .al f => rc.act = false ∧ HOk (D.base + j) ∧ ∃ blk, rc.blk = some blk ∧ Ever D V j fun TL => f.run [] TL (D.base + j) = some (rc.val, blk)
  | .ac f => rc.act = true ∧ rc.blk = none ∧ ∃ x n, T rc.ph = some x ∧ x.ix = j ∧ nxAt D.n0 T rc.ph = some n ∧ Ever D V j fun TL => f.run D.call [] TL x.pre (D.base + j) n = some (.val rc.val x.post x.nx)
  | _ => False
def SkipFact (D : DC0) (T : HT) (j : Nat) (rc : Rec) (k : CK) : Prop :=
  rc.val = .tuple [] ∧ rc.blk = none ∧ rc.act = isAc k ∧ (rc.act = true → ∃ x n, T rc.ph = some x ∧ x.ix = j ∧ x.post = x.pre ∧ nxAt D.n0 T rc.ph = some n ∧ x.nx = n)
def Fact (D : DC0) (V : VT) (T : HT) (j : Nat) (rc : Rec) : Prop :=
  ∃ o anc, D.l[j]? = some o ∧ D.r[j]? = some anc ∧ (∀ t, o.dst = some t → t < D.N) ∧ ∃ b, (Ever D V j fun TL => wantG (cGuard D.cx D.l o.guard) [] TL = some b) ∧
    (b = true → KFact D V T j anc rc (cKind D.P D.cx o.op)) ∧ (b = false → SkipFact D T j rc (cKind D.P D.cx o.op))

theorem KFact.mono {D : DC0} {V W : VT} {T U : HT} {j anc : Nat} {rc : Rec} {k : CK} (h : KFact D V T j anc rc k) (hd : ∀ i, Ahead D.r i j → ∃ rc, V i = some rc) (hv : Extends V W) (ht : HExt T U) : KFact D W U j anc rc k := by
  cases k with
  | rd f mem =>
    obtain ⟨h1, h2, h3⟩ := h
    exact ⟨h1, h2, fun p hp hq => let ⟨M, h4, h5⟩ := h3 p hp hq; ⟨M, h4.mono hv ht, h5.mono hd hv⟩⟩
  | al f =>
    obtain ⟨h1, h2, blk, h3, h4⟩ := h
    exact ⟨h1, h2, blk, h3, h4.mono hd hv⟩
  | ac f =>
    obtain ⟨h1, h2, x, n, h3, h4, h5, h6⟩ := h
    exact ⟨h1, h2, x, n, ht _ _ h3, h4, nxAt_mono ht h5, h6.mono hd hv⟩
  | _ => exact h
theorem SkipFact.mono {D : DC0} {T U : HT} {j : Nat} {rc : Rec} {k : CK} (h : SkipFact D T j rc k) (ht : HExt T U) : SkipFact D U j rc k := by
  obtain ⟨h1, h2, h3, h4⟩ := h
  refine ⟨h1, h2, h3, fun ha => ?_⟩
  obtain ⟨x, n, h5, h6, h7, h8, h9⟩ := h4 ha
  exact ⟨x, n, ht _ _ h5, h6, h7, nxAt_mono ht h8, h9⟩
theorem Fact.mono {D : DC0} {V W : VT} {T U : HT} {j : Nat} {rc : Rec} (h : Fact D V T j rc) (hd : ∀ i, Ahead D.r i j → ∃ rc, V i = some rc) (hv : Extends V W) (ht : HExt T U) : Fact D W U j rc := by
  obtain ⟨o, anc, h1, h2, h3, b, h4, h5, h6⟩ := h
  exact ⟨o, anc, h1, h2, h3, b, h4.mono hd hv, fun hb => (h5 hb).mono hd hv ht, fun hb => (h6 hb).mono ht⟩

/-- what is known of a state of the canonical run, behind k effects -/
structure DS (D : DC0) (V : VT) (T : HT) (k : Nat) (d : Draw) : Prop where
  tl : TLOk D.l V D.dp D.tm d.tl
  tm : ∀ t, t < 2 ^ D.dp → tget D.dp t d.tm = if hasBit D.L t then tget D.dp t D.tm else tget D.dp t d.tl
  heap : Sub D V T k d.h
  nx : nxAt D.n0 T k = some d.nx
  len : d.old.length = k
  old : ∀ i, i < k → ∃ x, T (k - 1 - i) = some x ∧ d.old[i]? = some x.pre
  done : ∀ j, hasBit d.done j = true ↔ ∃ rc, V j = some rc
  fact : ∀ j rc, V j = some rc → Fact D V T j rc
  ph : ∀ j rc, V j = some rc → rc.ph ≤ k
  closed : ∀ j rc i, V j = some rc → Ahead D.r i j → ∃ rc', V i = some rc'
  phs : ∀ p x, T p = some x → p < k ∧ D.es[p]? = some x.ix ∧ (∃ rc, V x.ix = some rc ∧ rc.act = true ∧ rc.ph = p)
  all : ∀ p, p < k → ∃ x, T p = some x
  chain : ∀ p q x y, p < q → T p = some x → T q = some y → Ahead D.r x.ix y.ix
  pre : ∀ p x, T p = some x → ∃ C, heapAt D.h0 T p = some C ∧ x.pre.lo = C.lo ∧ ∀ b blk, HOk b → hget x.pre b = some blk → hget C b = some blk ∨ ∃ j rc, V j = some rc ∧ rc.ph = p ∧ rc.blk = some blk ∧ b = D.base + j ∧ Ahead D.r j x.ix
  ahead : ∀ j rc x, V j = some rc → rc.act = false → T rc.ph = some x → Ahead D.r j x.ix

theorem ahead_trans {l : List Oper} {r : List Nat} (h : ancs l 0 [] = some r) : ∀ {k j i : Nat}, Ahead r i j → Ahead r j k → Ahead r i k := by
  intro k
  induction k using Nat.strongRecOn with
  | _ k ih =>
    intro j i hij hjk
    have hlen := (ancs_ok (acc := []) rfl h).1
    obtain ⟨a, ha, _⟩ := id hjk
    have hil : k < l.length := by rw [← hlen]; exact (List.getElem?_eq_some_iff.1 ha).1
    obtain ⟨e, he, hb, hlt, h4⟩ := (ahead_iff h (List.getElem?_eq_getElem hil) j).1 hjk
    refine (ahead_iff h (List.getElem?_eq_getElem hil) i).2 ⟨e, he, hb, hlt, .inr ?_⟩
    rcases h4 with rfl | h4
    · exact hij
    · exact ih e.on hlt hij h4

theorem guard_alike {l : List Oper} {r : List Nat} (hp : PlanOk l r) {V W U : VT} {dp G : Nat} {tm tl TL : TM} (h1 : TLOk l W dp tm tl) (h2 : TLOk l U dp tm TL) {i : Nat} {o : Oper} (ho : l[i]? = some o)
    (hW : AtOp r V i W) (hU : AtOp r V i U) : wantG (cGuard ⟨dp, 0, [], G⟩ l o.guard) [] tl = wantG (cGuard ⟨dp, 0, [], G⟩ l o.guard) [] TL := by
  unfold cGuard
  split
  · rfl
  · rename_i q hq
    obtain ⟨g, want⟩ := q
    rw [lget_eq]
    show wantG (cGuardO ⟨dp, 0, [], G⟩ want l[g]?) [] tl = wantG (cGuardO ⟨dp, 0, [], G⟩ want l[g]?) [] TL
    cases hg : l[g]? with
    | none => rfl
    | some og =>
      unfold cGuardO
      cases hd : og.dst with
      | none => simp only []; rw [hd]; rfl
      | some d =>
        simp only []
        rw [hd]
        show ob ((cO ⟨dp, 0, [], G⟩ (.tmp d)).run [] tl) (wantV want) = ob ((cO ⟨dp, 0, [], G⟩ (.tmp d)).run [] TL) (wantV want)
        have : (cO ⟨dp, 0, [], G⟩ (.tmp d)).run [] tl = (cO ⟨dp, 0, [], G⟩ (.tmp d)).run [] TL := by
          show (sel (hasBit 0 d) coNone (sel (Nat.blt d (Nat.pow 2 dp)) (coTmp (pathOf dp d) d) coNone)).run [] tl = (sel (hasBit 0 d) coNone (sel (Nat.blt d (Nat.pow 2 dp)) (coTmp (pathOf dp d) d) coNone)).run [] TL
          rw [hasBit_zero]
          cases hlt : Nat.blt d (Nat.pow 2 dp) with
          | false => rfl
          | true =>
            have hlt : d < 2 ^ dp := natBlt hlt
            show tget dp d tl = tget dp d TL
            obtain ⟨rc, hrc, hrW⟩ := hW.yes g (hp.grd i o g want ho hq)
            obtain ⟨rc', hrc', hrU⟩ := hU.yes g (hp.grd i o g want ho hq)
            rw [hrc] at hrc'; cases hrc'
            rw [h1.yes d rc.val hlt ⟨g, og, rc, hg, hd, hrW, rfl⟩, h2.yes d rc.val hlt ⟨g, og, rc, hg, hd, hrU, rfl⟩]
        rw [this]

/-- one more in a table -/
def vput (V : VT) (i : Nat) (rc : Rec) : VT := fun j => if j = i then some rc else V j
theorem vput_self (V : VT) (i : Nat) (rc : Rec) : vput V i rc i = some rc := by simp [vput]
theorem vput_ne (V : VT) {i j : Nat} (rc : Rec) (h : j ≠ i) : vput V i rc j = V j := by simp [vput, h]
theorem vput_ext {V : VT} {i : Nat} {rc : Rec} (h : V i = none) : Extends V (vput V i rc) := by
  intro j q hj
  have : j ≠ i := by intro e; rw [e, h] at hj; cases hj
  rw [vput_ne _ _ this]; exact hj
def hput (T : HT) (k : Nat) (x : Phs) : HT := fun p => if p = k then some x else T p
theorem hput_self (V : HT) (i : Nat) (rc : Phs) : hput V i rc i = some rc := by simp [hput]
theorem hput_ne (V : HT) {i j : Nat} (rc : Phs) (h : j ≠ i) : hput V i rc j = V j := by simp [hput, h]
theorem hput_ext {V : HT} {i : Nat} {rc : Phs} (h : V i = none) : HExt V (hput V i rc) := by
  intro j q hj
  have : j ≠ i := by intro e; rw [e, h] at hj; cases hj
  rw [hput_ne _ _ this]; exact hj

/-- a result is written -/
theorem TLOk.put {l : List Oper} {r : List Nat} (hp : PlanOk l r) {V : VT} {dp N : Nat} {cx : Cx} {tm tl : TM} (h : TLOk l V dp tm tl) (hN : N ≤ 2 ^ dp) (hcx : cx.L = 0) (hdp : cx.dp = dp) {i : Nat} {o : Oper} (ho : l[i]? = some o)
    (hi : V i = none) (rc : Rec) {k0 : CK} {g0 : CG} (hd : ∀ t, o.dst = some t → t < N) : TLOk l (vput V i rc) dp tm (putD (cDst N cx o.dst k0 g0).d rc.val tl) := by
  have hw : ∀ t v, Wrote l (vput V i rc) t v ↔ (o.dst = some t ∧ v = rc.val) ∨ Wrote l V t v := by
    intro t v
    constructor
    · rintro ⟨j, p, q, hj, hpd, hv, rfl⟩
      by_cases hji : j = i
      · subst hji
        rw [ho] at hj; cases hj
        rw [vput_self] at hv; cases hv
        exact .inl ⟨hpd, rfl⟩
      · rw [vput_ne _ _ hji] at hv
        exact .inr ⟨j, p, q, hj, hpd, hv, rfl⟩
    · rintro (⟨hpd, rfl⟩ | ⟨j, p, q, hj, hpd, hv, rfl⟩)
      · exact ⟨i, o, rc, ho, hpd, vput_self _ _ _, rfl⟩
      · exact ⟨j, p, q, hj, hpd, vput_ext hi _ _ hv, rfl⟩
  have hnone : o.dst = none → putD (cDst N cx o.dst k0 g0).d rc.val tl = tl := by intro e; rw [e]; rfl
  have hsome : ∀ d, o.dst = some d → putD (cDst N cx o.dst k0 g0).d rc.val tl = tset dp d rc.val tl := by
    intro d e
    have : Nat.blt d N = true := by rw [Nat.blt_eq]; exact hd d e
    rw [e]
    simp only [cDst, this, sel_true, hcx, hasBit_zero, sel_false, hdp]
    rfl
  have hother : ∀ t v, Wrote l V t v → o.dst ≠ some t := by
    rintro t v ⟨j, p, q, hj, hpd, hv, rfl⟩ e
    have := hp.dst i j o p t ho hj e hpd
    subst this
    rw [hi] at hv; cases hv
  cases hdst : o.dst with
  | none =>
    rw [← hdst, hnone hdst]
    exact ⟨fun t v ht hv => (by
        rcases (hw t v).1 hv with ⟨h1, _⟩ | h1
        · rw [hdst] at h1; cases h1
        · exact h.yes t v ht h1), fun t ht hv => h.no t ht (fun v h1 => hv v ((hw t v).2 (.inr h1)))⟩
  | some d =>
    have hdN := hd d hdst
    have hdd : d < 2 ^ dp := Nat.lt_of_lt_of_le hdN hN
    rw [← hdst, hsome d hdst]
    refine ⟨fun t v ht hv => ?_, fun t ht hv => ?_⟩
    · rcases (hw t v).1 hv with ⟨h1, rfl⟩ | h1
      · rw [hdst] at h1; cases h1
        rw [tget_tset]
      · have htd : t ≠ d := by intro e; subst e; exact hother _ _ h1 hdst
        rw [tget_tset_ne dp rc.val tl ht hdd htd]
        exact h.yes t v ht h1
    · have htd : t ≠ d := by intro e; subst e; exact hv rc.val ((hw t rc.val).2 (.inl ⟨hdst, rfl⟩))
      rw [tget_tset_ne dp rc.val tl ht hdd htd]
      exact h.no t ht (fun v h1 => hv v ((hw t v).2 (.inr h1)))
end Go.AE

/-
A symbolic executor: the canonical run of a region whose order is open: quiet operations and effects, one by one.
-/
namespace Go.AE

/-- what is known of a plan -/
structure DC0.Ok (D : DC0) : Prop where
  anc : ancs D.l 0 [] = some D.r
  plan : PlanOk D.l D.r
  dep : D.N ≤ 2 ^ D.dp

section
variable {D : DC0} {V : VT} {T : HT} {k : Nat} {d d' : Draw}

theorem ca_lt {j : Nat} {o : Oper} {anc : Nat} {x : CK} (hx : (D.ca j o anc).op.k = x) (hno : x ≠ .no) : ∀ t, o.dst = some t → t < D.N := by
  intro t ht
  cases hlt : Nat.blt t D.N with
  | true => exact natBlt hlt
  | false =>
    exfalso
    apply hno
    rw [← hx]
    show (cOp D.P D.N D.cx D.l o).k = .no
    unfold cOp
    rw [ht]
    simp only [cDst, hlt, sel_false]
theorem ca_of_lt {j : Nat} {o : Oper} {anc : Nat} (h : ∀ t, o.dst = some t → t < D.N) :
    (D.ca j o anc).op.k = cKind D.P D.cx o.op ∧ (D.ca j o anc).op.g = cGuard D.cx D.l o.guard ∧ (D.ca j o anc).op.d = (cDst D.N D.cx o.dst (cKind D.P D.cx o.op) (cGuard D.cx D.l o.guard)).d := by
  show (cOp D.P D.N D.cx D.l o).k = _ ∧ (cOp D.P D.N D.cx D.l o).g = _ ∧ (cOp D.P D.N D.cx D.l o).d = _
  unfold cOp
  cases hd : o.dst with
  | none => exact ⟨rfl, rfl, rfl⟩
  | some t =>
    have : Nat.blt t D.N = true := by rw [Nat.blt_eq]; exact h t hd
    have e1 : ∀ k g, cDst D.N D.cx (some t) k g = sel (hasBit D.cx.L t) ⟨k, .loc, g⟩ ⟨k, .at (pathOf D.cx.dp t) t, g⟩ := by
      intro k g
      show sel (Nat.blt t D.N) _ _ = _
      rw [this]
    rw [e1]
    cases hasBit D.cx.L t <;> exact ⟨rfl, rfl, rfl⟩

theorem DS.doneFalse (h : DS D V T k d) {j : Nat} (hj : hasBit d.done j = false) : V j = none := by
  cases hv : V j with
  | none => rfl
  | some rc => rw [(h.done j).2 ⟨rc, hv⟩] at hj; cases hj

theorem DS.sub (h : DS D V T k d) {j anc : Nat} (ha : D.r[j]? = some anc) (hs : subB anc d.done = true) : ∀ i, Ahead D.r i j → ∃ rc, V i = some rc := by
  rintro i ⟨a, h1, h2⟩
  rw [ha] at h1; cases h1
  exact (h.done i).1 (subB_ok hs h2)

theorem DS.atOp (h : DS D V T k d) {j anc : Nat} (ha : D.r[j]? = some anc) (hs : subB anc d.done = true) (hn : V j = none) : AtOp D.r V j V := by
  refine ⟨fun i hi => ?_, fun i hi => ?_⟩
  · obtain ⟨rc, hrc⟩ := h.sub ha hs i hi
    exact ⟨rc, hrc, hrc⟩
  · cases hv : V i with
    | none => rfl
    | some rc =>
      rcases hi with rfl | hi
      · rw [hn] at hv; cases hv
      · obtain ⟨rc', h1⟩ := h.closed i rc j hv hi
        rw [hn] at h1; cases h1
/-- a look or a guard, told at the table that stands, is told at every table of the operation -/
theorem DS.ever_guard (hD : D.Ok) (h : DS D V T k d) {j anc : Nat} {o : Oper} (ho : D.l[j]? = some o) (ha : D.r[j]? = some anc) (hs : subB anc d.done = true) (hn : V j = none) {b : Bool} (hg : wantG (cGuard D.cx D.l o.guard) [] d.tl = some b) :
    Ever D V j fun TL => wantG (cGuard D.cx D.l o.guard) [] TL = some b := by
  intro W TL hW hTL
  have e1 := guard_alike (G := D.P.globals.size) hD.plan h.tl hTL ho (h.atOp ha hs hn) hW
  exact e1.symm.trans hg
theorem DS.ever_same (hD : D.Ok) (h : DS D V T k d) {j anc : Nat} {o : Oper} (ho : D.l[j]? = some o) (ha : D.r[j]? = some anc) (hs : subB anc d.done = true) (hn : V j = none) :
    Ever D V j fun TL => KSame (cKind D.P D.cx o.op) [] [] d.tl TL := by
  intro W TL hW hTL
  exact kind_local (alike_of hD.plan h.tl hTL ho (h.atOp ha hs hn) hW)

/-- one more quiet operation is done -/
theorem DS.add (hD : D.Ok) (h : DS D V T k d) {j anc : Nat} {o : Oper} (ho : D.l[j]? = some o) (ha : D.r[j]? = some anc) (hs : subB anc d.done = true) (hj : hasBit d.done j = false) (hd : ∀ t, o.dst = some t → t < D.N)
    {rc : Rec} (hph : rc.ph = k) (hact : rc.act = false) (hfact : Fact D V T j rc) {h' : Heap} (hlo' : h'.lo = d.h.lo) (hh : ∀ b blk, HOk b → hget h' b = some blk → hget d.h b = some blk ∨ (rc.blk = some blk ∧ b = D.base + j))
    (hq : qDone (D.ca j o anc) d rc.val h' = some d') : DS D (vput V j rc) T k d' := by
  have hn := h.doneFalse hj
  have hext : Extends V (vput V j rc) := vput_ext hn
  obtain ⟨_, _, hcd⟩ := ca_of_lt (j := j) (anc := anc) hd
  cases hq
  have htl := h.tl.put (N := D.N) (cx := D.cx) hD.plan hD.dep rfl rfl ho hn rc (k0 := cKind D.P D.cx o.op) (g0 := cGuard D.cx D.l o.guard) hd
  rw [← hcd] at htl
  refine ⟨htl, ?_, ?_, h.nx, h.len, h.old, ?_, ?_, ?_, ?_, ?_, h.all, h.chain, ?_, ?_⟩
  · -- the frame's results
    intro t ht
    show tget D.dp t (sel (isGl D.L o.dst) (putD (D.ca j o anc).op.d rc.val d.tm) d.tm) = if hasBit D.L t then tget D.dp t D.tm else tget D.dp t (putD (D.ca j o anc).op.d rc.val d.tl)
    rw [hcd]
    cases hdst : o.dst with
    | none => exact h.tm t ht
    | some q =>
      have hlt : Nat.blt q D.N = true := by rw [Nat.blt_eq]; exact hd q hdst
      have hq2 : q < 2 ^ D.dp := Nat.lt_of_lt_of_le (hd q hdst) hD.dep
      have e1 : (cDst D.N D.cx (some q) (cKind D.P D.cx o.op) (cGuard D.cx D.l o.guard)).d = .at (pathOf D.dp q) q := by
        simp only [cDst, hlt, sel_true]
        show (sel (hasBit 0 q) _ _ : CP).d = _
        rw [hasBit_zero]; rfl
      rw [e1]
      show tget D.dp t (sel (notB (hasBit D.L q)) (tset D.dp q rc.val d.tm) d.tm) = if hasBit D.L t then tget D.dp t D.tm else tget D.dp t (tset D.dp q rc.val d.tl)
      by_cases htq : t = q
      · subst htq
        rw [tget_tset]
        cases hb : hasBit D.L t with
        | true =>
          show tget D.dp t d.tm = _
          rw [h.tm t ht, hb]; rfl
        | false =>
          show tget D.dp t (tset D.dp t rc.val d.tm) = _
          rw [tget_tset]; rfl
      · rw [tget_tset_ne D.dp rc.val d.tl ht hq2 htq, ← h.tm t ht]
        cases hasBit D.L q with
        | true => rfl
        | false => exact tget_tset_ne D.dp rc.val d.tm ht hq2 htq
  · -- the memory
    obtain ⟨C, hC, hlo, hall⟩ := h.heap
    refine ⟨C, hC, hlo'.trans hlo, fun b blk hb6 hb => ?_⟩
    rcases hh b blk hb6 hb with h1 | ⟨h1, h2⟩
    · rcases hall b blk hb6 h1 with h3 | ⟨i, q, h4, h5⟩
      · exact .inl h3
      · exact .inr ⟨i, q, hext _ _ h4, h5⟩
    · exact .inr ⟨j, rc, vput_self _ _ _, hph, h1, h2⟩
  · intro i
    rw [hasBit_add, Bool.or_eq_true, h.done i]
    constructor
    · rintro (⟨q, hq⟩ | h1)
      · exact ⟨q, hext _ _ hq⟩
      · have : j = i := of_decide_eq_true h1
        subst this; exact ⟨rc, vput_self _ _ _⟩
    · rintro ⟨q, hq⟩
      by_cases hij : i = j
      · right; exact decide_eq_true hij.symm
      · rw [vput_ne _ _ hij] at hq; exact .inl ⟨q, hq⟩
  · intro i q hq
    by_cases hij : i = j
    · subst hij
      rw [vput_self] at hq; cases hq
      exact hfact.mono (h.sub ha hs) hext (HExt.refl T)
    · rw [vput_ne _ _ hij] at hq
      exact (h.fact i q hq).mono (fun g hg => h.closed i q g hq hg) hext (HExt.refl T)
  · intro i q hq
    by_cases hij : i = j
    · subst hij
      rw [vput_self] at hq; cases hq
      omega
    · rw [vput_ne _ _ hij] at hq; exact h.ph i q hq
  · intro i q g hq hg
    by_cases hij : i = j
    · subst hij
      obtain ⟨q', hq'⟩ := h.sub ha hs g hg
      exact ⟨q', hext _ _ hq'⟩
    · rw [vput_ne _ _ hij] at hq
      obtain ⟨q', hq'⟩ := h.closed i q g hq hg
      exact ⟨q', hext _ _ hq'⟩
  · intro p x hx
    obtain ⟨h1, h2, q, h3, h4⟩ := h.phs p x hx
    exact ⟨h1, h2, q, hext _ _ h3, h4⟩
  · intro p x hx
    obtain ⟨C, hC, hlo, hall⟩ := h.pre p x hx
    refine ⟨C, hC, hlo, fun b blk hb6 hb => ?_⟩
    rcases hall b blk hb6 hb with h1 | ⟨i, q, h1, h2⟩
    · exact .inl h1
    · exact .inr ⟨i, q, hext _ _ h1, h2⟩
  · intro i q x hq hqa hx
    by_cases hij : i = j
    · subst hij
      rw [vput_self] at hq; cases hq
      have := (h.phs _ x hx).1
      omega
    · rw [vput_ne _ _ hij] at hq; exact h.ahead i q x hq hqa hx

theorem hget_hset_cases {h : Heap} {i b : Nat} {x blk : Blk} (hb : HOk b) (hi : HOk i) (hg : hget (hset h i x) b = some blk) : hget h b = some blk ∨ (x = blk ∧ b = i) := by
  by_cases e : b = i
  · subst e
    right
    rw [hget_hset] at hg; cases hg; exact ⟨rfl, rfl⟩
  · left
    rw [hget_hset_ne hb hi e] at hg
    exact hg

theorem quiet1_ok (hD : D.Ok) (h : DS D V T k d) {j anc : Nat} {o : Oper} (ho : D.l[j]? = some o) (ha : D.r[j]? = some anc) (hj : hasBit d.done j = false) (hq : quiet1 D.es D.base (D.ca j o anc) d = some d') :
    ∃ rc, rc.ph = k ∧ rc.act = false ∧ DS D (vput V j rc) T k d' := by
  obtain ⟨hq1, hq2⟩ := guardB_some hq
  obtain ⟨hs, hq3⟩ := guardB_some hq2
  obtain ⟨b, hb, hq4⟩ := ob_some (x := wantG (D.ca j o anc).op.g [] d.tl) hq3
  have hs : subB anc d.done = true := hs
  have hno : (D.ca j o anc).op.k ≠ .no := by
    intro e
    rw [e] at hq1
    cases hq1
  have hd := ca_lt rfl hno
  obtain ⟨hk, hg, _⟩ := ca_of_lt (D := D) (j := j) (anc := anc) hd
  rw [hg] at hb
  have hn0 := h.doneFalse hj
  have hguard := h.ever_guard hD ho ha hs hn0 hb
  rw [hk] at hq1 hq4
  have hsame := h.ever_same hD ho ha hs hn0
  cases b with
  | false =>
    change qDone (D.ca j o anc) d (.tuple []) d.h = some d' at hq4
    have hact : isAc (cKind D.P D.cx o.op) = false := by
      cases he : isAc (cKind D.P D.cx o.op) with
      | false => rfl
      | true => rw [he] at hq1; cases hq1
    refine ⟨⟨.tuple [], none, k, false⟩, rfl, rfl, h.add hD ho ha hs hj hd rfl rfl ?_ rfl (fun b blk _ hb => .inl hb) hq4⟩
    exact ⟨o, anc, ho, ha, hd, false, hguard, (fun e => by cases e), fun _ => ⟨rfl, rfl, hact.symm, (fun e => by cases e)⟩⟩
  | true =>
    change qOp D.es D.base (D.ca j o anc) d (cKind D.P D.cx o.op) = some d' at hq4
    cases hc : cKind D.P D.cx o.op with
    | rd f mem =>
      rw [hc] at hq4 hsame
      obtain ⟨v, hv, hq5⟩ := ob_some (x := f.run [] d.tl d.h) hq4
      obtain ⟨hq6, hq7⟩ := guardB_some hq5
      refine ⟨⟨v, none, k, false⟩, rfl, rfl, h.add hD ho ha hs hj hd rfl rfl ?_ rfl (fun b blk _ hb => .inl hb) hq7⟩
      refine ⟨o, anc, ho, ha, hd, true, hguard, fun _ => ?_, (fun e => by cases e)⟩
      rw [hc]
      refine ⟨rfl, rfl, fun p hp hpk => ?_⟩
      have at_ : ∀ {M : Heap}, f.run [] d.tl M = some v → Ever D V j fun TL => f.run [] TL M = some v := by
        intro M hM W TL hW hTL
        rw [← hsame W TL hW hTL M]; exact hM
      by_cases hpe : p = k
      · subst hpe
        exact ⟨d.h, h.heap, at_ hv⟩
      · have hpk : p < k := Nat.lt_of_le_of_ne hpk hpe
        obtain ⟨x, hx⟩ := h.all p hpk
        have hsub : Sub D V T p x.pre := by
          obtain ⟨C, hC, hlo, hall⟩ := h.pre p x hx
          refine ⟨C, hC, hlo, fun b blk hb6 hb => ?_⟩
          rcases hall b blk hb6 hb with h1 | ⟨i, q, h1, h2, h3, h4, _⟩
          · exact .inl h1
          · exact .inr ⟨i, q, h1, h2, h3, h4⟩
        refine ⟨x.pre, hsub, at_ ?_⟩
        cases mem with
        | false => rw [rd_quiet hc x.pre d.h]; exact hv
        | true =>
          change sameOld f d.tl v (llen d.old - popBits anc D.es) d.old = true at hq6
          rw [llen_eq, h.len] at hq6
          obtain ⟨X, hX, hr⟩ := sameOld_ok hq6 (k - 1 - p) (by omega)
          obtain ⟨y, hy, hy2⟩ := h.old (k - 1 - p) (by omega)
          rw [show k - 1 - (k - 1 - p) = p by omega, hx] at hy
          cases hy
          rw [hy2] at hX; cases hX
          exact hr
    | al f =>
      rw [hc] at hq4 hsame
      obtain ⟨q, hv, hq5⟩ := ob_some (x := f.run [] d.tl (Nat.add D.base j)) hq4
      have hq7 := hq5
      have h6 : HOk (D.base + j) := hok _
      refine ⟨⟨q.1, some q.2, k, false⟩, rfl, rfl, h.add hD ho ha hs hj hd rfl rfl ?_ (hset_lo _ _ _) (fun b blk hb6 hb => ?_) hq7⟩
      · refine ⟨o, anc, ho, ha, hd, true, hguard, fun _ => ?_, (fun e => by cases e)⟩
        rw [hc]
        refine ⟨rfl, h6, q.2, rfl, fun W TL hW hTL => ?_⟩
        exact (hsame W TL hW hTL (D.base + j)).symm.trans hv
      · rcases hget_hset_cases hb6 h6 hb with h1 | ⟨h1, h2⟩
        · exact .inl h1
        · exact .inr ⟨by rw [h1], h2⟩
    | ac f => rw [hc] at hq1; cases hq1
    | df f l => rw [hc] at hq1; cases hq1
    | rc => rw [hc] at hq1; cases hq1
    | no => rw [hc] at hq1; cases hq1

/-- what a list of quiet operations adds -/
structure Adds (V V' : VT) (k : Nat) (X : Nat → Prop) : Prop where
  ext : Extends V V'
  new : ∀ j rc, V' j = some rc → V j = some rc ∨ (rc.ph = k ∧ rc.act = false ∧ X j)
theorem Adds.refl (V : VT) (k : Nat) (X : Nat → Prop) : Adds V V k X := ⟨Extends.refl V, fun _ _ h => .inl h⟩

/-- the operations of a plan -/
def Ofs (D : DC0) (q : List CA) : Prop := ∀ c ∈ q, ∃ o, D.l[c.i]? = some o ∧ D.r[c.i]? = some c.anc ∧ c = D.ca c.i o c.anc

theorem quietAll_ok (hD : D.Ok) {pick : CA → Bool} : ∀ {q : List CA} {V : VT} {d d' : Draw}, Ofs D q → DS D V T k d → quietAll D.es D.base pick q d = some d' →
    ∃ V', DS D V' T k d' ∧ Adds V V' k (fun j => ∃ c ∈ q, c.i = j ∧ pick c = true) ∧ ∀ c ∈ q, pick c = true → ∃ rc, V' c.i = some rc := by
  intro q
  induction q with
  | nil => intro V d d' _ h hq; cases hq; exact ⟨V, h, Adds.refl _ _ _, fun c hc => by cases hc⟩
  | cons c q ih =>
    intro V d d' hofs h hq
    have hofs' : Ofs D q := fun x hx => hofs x (by simp [hx])
    change sel (andB (pick c) (notB (hasBit d.done c.i))) (ob (quiet1 D.es D.base c d) (quietAll D.es D.base pick q)) (quietAll D.es D.base pick q d) = some d' at hq
    cases hp : pick c with
    | false =>
      rw [hp] at hq
      obtain ⟨V', h1, h2, h3⟩ := ih hofs' h hq
      refine ⟨V', h1, ⟨h2.ext, fun j rc hj => (h2.new j rc hj).imp id fun ⟨a, b, x, hx, hy⟩ => ⟨a, b, x, by simp [hx], hy⟩⟩, fun x hx hpx => ?_⟩
      rcases List.mem_cons.1 hx with rfl | hx
      · rw [hp] at hpx; cases hpx
      · exact h3 x hx hpx
    | true =>
      rw [hp] at hq
      cases hdn : hasBit d.done c.i with
      | true =>
        rw [hdn] at hq
        obtain ⟨V', h1, h2, h3⟩ := ih hofs' h hq
        refine ⟨V', h1, ⟨h2.ext, fun j rc hj => (h2.new j rc hj).imp id fun ⟨a, b, x, hx, hy⟩ => ⟨a, b, x, by simp [hx], hy⟩⟩, fun x hx hpx => ?_⟩
        rcases List.mem_cons.1 hx with rfl | hx
        · obtain ⟨rc, hrc⟩ := (h.done x.i).1 hdn
          exact ⟨rc, h2.ext _ _ hrc⟩
        · exact h3 x hx hpx
      | false =>
        rw [hdn] at hq
        obtain ⟨d1, hd1, hq1⟩ := ob_some (x := quiet1 D.es D.base c d) hq
        obtain ⟨o, ho, ha, hce⟩ := hofs c (by simp)
        rw [hce] at hd1
        obtain ⟨rc, hph, hact, hds⟩ := quiet1_ok hD h ho ha hdn hd1
        obtain ⟨V', h1, h2, h3⟩ := ih hofs' hds hq1
        have hn := h.doneFalse hdn
        refine ⟨V', h1, ⟨(vput_ext hn).trans h2.ext, fun j rc' hj => ?_⟩, fun x hx hpx => ?_⟩
        · rcases h2.new j rc' hj with h4 | ⟨a, b, x, hx, hy⟩
          · by_cases hji : j = c.i
            · subst hji
              rw [vput_self] at h4; cases h4
              exact .inr ⟨hph, hact, c, by simp, rfl, hp⟩
            · rw [vput_ne _ _ hji] at h4; exact .inl h4
          · exact .inr ⟨a, b, x, by simp [hx], hy⟩
        · rcases List.mem_cons.1 hx with rfl | hx
          · exact ⟨rc, h2.ext _ _ (vput_self _ _ _)⟩
          · exact h3 x hx hpx

/-- one more effect is done -/
theorem DS.eff (hD : D.Ok) (h : DS D V T k d) {j anc : Nat} {o : Oper} (ho : D.l[j]? = some o) (ha : D.r[j]? = some anc) (hs : subB anc d.done = true) (hn : V j = none) (hd : ∀ t, o.dst = some t → t < D.N)
    (hes : D.es[k]? = some j) (hch : ∀ p y, T p = some y → Ahead D.r y.ix j) (hah : ∀ i q, V i = some q → q.act = false → q.ph = k → Ahead D.r i j) (v : AV) (h' : Heap) (nx' : Nat)
    (hfact : Fact D V (hput T k ⟨d.h, h', nx', j⟩) j ⟨v, none, k, true⟩) : DS D (vput V j ⟨v, none, k, true⟩) (hput T k ⟨d.h, h', nx', j⟩) (k + 1) (eDone (D.ca j o anc) d v h' nx') := by
  have hext : Extends V (vput V j ⟨v, none, k, true⟩) := vput_ext hn
  have hTk : T k = none := by
    cases hT : T k with
    | none => rfl
    | some x => have := (h.phs k x hT).1; omega
  have htx : HExt T (hput T k ⟨d.h, h', nx', j⟩) := hput_ext hTk
  obtain ⟨_, _, hcd⟩ := ca_of_lt (D := D) (j := j) (anc := anc) hd
  have htl := h.tl.put (N := D.N) (cx := D.cx) hD.plan hD.dep rfl rfl ho hn ⟨v, none, k, true⟩ (k0 := cKind D.P D.cx o.op) (g0 := cGuard D.cx D.l o.guard) hd
  rw [← hcd] at htl
  refine ⟨htl, ?_, ?_, ?_, ?_, ?_, ?_, ?_, ?_, ?_, ?_, ?_, ?_, ?_, ?_⟩
  · intro t ht
    show tget D.dp t (sel (isGl D.L o.dst) (putD (D.ca j o anc).op.d v d.tm) d.tm) = if hasBit D.L t then tget D.dp t D.tm else tget D.dp t (putD (D.ca j o anc).op.d v d.tl)
    rw [hcd]
    cases hdst : o.dst with
    | none => exact h.tm t ht
    | some q =>
      have hlt : Nat.blt q D.N = true := by rw [Nat.blt_eq]; exact hd q hdst
      have hq2 : q < 2 ^ D.dp := Nat.lt_of_lt_of_le (hd q hdst) hD.dep
      have e1 : (cDst D.N D.cx (some q) (cKind D.P D.cx o.op) (cGuard D.cx D.l o.guard)).d = .at (pathOf D.dp q) q := by
        simp only [cDst, hlt, sel_true]
        show (sel (hasBit 0 q) _ _ : CP).d = _
        rw [hasBit_zero]; rfl
      rw [e1]
      show tget D.dp t (sel (notB (hasBit D.L q)) (tset D.dp q v d.tm) d.tm) = if hasBit D.L t then tget D.dp t D.tm else tget D.dp t (tset D.dp q v d.tl)
      by_cases htq : t = q
      · subst htq
        rw [tget_tset]
        cases hb : hasBit D.L t with
        | true =>
          show tget D.dp t d.tm = _
          rw [h.tm t ht, hb]; rfl
        | false =>
          show tget D.dp t (tset D.dp t v d.tm) = _
          rw [tget_tset]; rfl
      · rw [tget_tset_ne D.dp v d.tl ht hq2 htq, ← h.tm t ht]
        cases hasBit D.L q with
        | true => rfl
        | false => exact tget_tset_ne D.dp v d.tm ht hq2 htq
  · exact ⟨h', by show (hput T k _ k).map _ = _; rw [hput_self]; rfl, rfl, fun b blk _ hb => .inl hb⟩
  · show (hput T k _ k).map _ = _; rw [hput_self]; rfl
  · show (d.h :: d.old).length = k + 1; simp [h.len]
  · intro i hi
    cases i with
    | zero => exact ⟨_, by rw [show k + 1 - 1 - 0 = k by omega]; exact hput_self _ _ _, rfl⟩
    | succ i =>
      obtain ⟨x, hx, hy⟩ := h.old i (by omega)
      exact ⟨x, by rw [show k + 1 - 1 - (i + 1) = k - 1 - i by omega]; exact htx _ _ hx, by simpa [eDone] using hy⟩
  · intro i
    show hasBit (addBit d.done j) i = true ↔ _
    rw [hasBit_add, Bool.or_eq_true, h.done i]
    constructor
    · rintro (⟨q, hq⟩ | h1)
      · exact ⟨q, hext _ _ hq⟩
      · have : j = i := of_decide_eq_true h1
        subst this; exact ⟨_, vput_self _ _ _⟩
    · rintro ⟨q, hq⟩
      by_cases hij : i = j
      · right; exact decide_eq_true hij.symm
      · rw [vput_ne _ _ hij] at hq; exact .inl ⟨q, hq⟩
  · intro i q hq
    by_cases hij : i = j
    · subst hij
      rw [vput_self] at hq; cases hq
      exact hfact.mono (h.sub ha hs) hext (HExt.refl _)
    · rw [vput_ne _ _ hij] at hq
      exact (h.fact i q hq).mono (fun g hg => h.closed i q g hq hg) hext htx
  · intro i q hq
    by_cases hij : i = j
    · subst hij
      rw [vput_self] at hq; cases hq
      exact Nat.le_succ k
    · rw [vput_ne _ _ hij] at hq
      have := h.ph i q hq; omega
  · intro i q g hq hg
    by_cases hij : i = j
    · subst hij
      obtain ⟨q', hq'⟩ := h.sub ha hs g hg
      exact ⟨q', hext _ _ hq'⟩
    · rw [vput_ne _ _ hij] at hq
      obtain ⟨q', hq'⟩ := h.closed i q g hq hg
      exact ⟨q', hext _ _ hq'⟩
  · intro p x hx
    by_cases hpk : p = k
    · subst hpk
      rw [hput_self] at hx; cases hx
      exact ⟨Nat.lt_succ_self _, hes, _, vput_self _ _ _, rfl, rfl⟩
    · rw [hput_ne _ _ hpk] at hx
      obtain ⟨h1, h2, q, h3, h4⟩ := h.phs p x hx
      exact ⟨by omega, h2, q, hext _ _ h3, h4⟩
  · intro p hp
    by_cases hpk : p = k
    · subst hpk; exact ⟨_, hput_self _ _ _⟩
    · obtain ⟨x, hx⟩ := h.all p (by omega)
      exact ⟨x, htx _ _ hx⟩
  · intro p q x y hpq hx hy
    by_cases hqk : q = k
    · subst hqk
      rw [hput_self] at hy; cases hy
      rw [hput_ne _ _ (by omega)] at hx
      exact hch p x hx
    · rw [hput_ne _ _ hqk] at hy
      have := (h.phs q y hy).1
      rw [hput_ne _ _ (by omega)] at hx
      exact h.chain p q x y hpq hx hy
  · intro p x hx
    by_cases hpk : p = k
    · subst hpk
      rw [hput_self] at hx; cases hx
      obtain ⟨C, hC, hlo, hall⟩ := h.heap
      refine ⟨C, heapAt_mono htx hC, hlo, fun b blk hb6 hb => ?_⟩
      rcases hall b blk hb6 hb with h1 | ⟨i, q, h1, h2, h3, h4⟩
      · exact .inl h1
      · refine .inr ⟨i, q, hext _ _ h1, h2, h3, h4, ?_⟩
        refine hah i q h1 ?_ h2
        cases hqa : q.act with
        | false => rfl
        | true =>
          exfalso
          obtain ⟨o', anc', _, _, _, b', _, hk1, hk2⟩ := h.fact i q h1
          cases b' with
          | true =>
            have hk1 := hk1 rfl
            cases hc : cKind D.P D.cx o'.op with
            | rd f mem => rw [hc] at hk1; rw [hk1.1] at hqa; cases hqa
            | al f => rw [hc] at hk1; rw [hk1.1] at hqa; cases hqa
            | ac f => rw [hc] at hk1; rw [hk1.2.1] at h3; cases h3
            | df f l => rw [hc] at hk1; exact hk1
            | rc => rw [hc] at hk1; exact hk1
            | no => rw [hc] at hk1; exact hk1
          | false => rw [(hk2 rfl).2.1] at h3; cases h3
    · rw [hput_ne _ _ hpk] at hx
      obtain ⟨C, hC, hlo, hall⟩ := h.pre p x hx
      refine ⟨C, heapAt_mono htx hC, hlo, fun b blk hb6 hb => ?_⟩
      rcases hall b blk hb6 hb with h1 | ⟨i, q, h1, h2⟩
      · exact .inl h1
      · exact .inr ⟨i, q, hext _ _ h1, h2⟩
  · intro i q x hq hqa hx
    by_cases hij : i = j
    · subst hij
      rw [vput_self] at hq; cases hq; cases hqa
    · rw [vput_ne _ _ hij] at hq
      by_cases hpk : q.ph = k
      · rw [hpk, hput_self] at hx; cases hx
        exact hah i q hq hqa hpk
      · rw [hput_ne _ _ hpk] at hx
        exact h.ahead i q x hq hqa hx
end
end Go.AE

/-
A symbolic executor: the canonical run of a region whose order is open, as a whole.
-/
namespace Go.AE

/-- the run came to its end -/
structure OkEnd (D : DC0) (V : VT) (T : HT) (m : Nat) (d : Draw) : Prop where
  ds : DS D V T m d
  all : ∀ j o, D.l[j]? = some o → ∃ rc, V j = some rc

/-- the run came to a panic of the effect j -/
structure PanEnd (D : DC0) (V : VT) (T : HT) (m : Nat) (d : Draw) (j : Nat) (o : Oper) (f : AC) (pre : Heap) (n : Nat) (v : AV) (h : Heap) (nx : Nat) : Prop where
  ds : DS D V T m d
  op : D.l[j]? = some o
  none : V j = none
  all : ∀ i p, D.l[i]? = some p → i ≠ j → ¬ Ahead D.r j i → ∃ rc, V i = some rc
  ahead : ∀ i, Ahead D.r i j → ∃ rc, V i = some rc
  chain : ∀ p x, T p = some x → Ahead D.r x.ix j
  kind : cKind D.P D.cx o.op = .ac f
  lt : ∀ t, o.dst = some t → t < D.N
  guard : Ever D V j fun TL => wantG (cGuard D.cx D.l o.guard) [] TL = some true
  nxOk : nxAt D.n0 T m = some n
  preOk : ∃ C, heapAt D.h0 T m = some C ∧ pre.lo = C.lo ∧ ∀ b blk, HOk b → hget pre b = some blk → hget C b = some blk ∨ ∃ i rc, V i = some rc ∧ rc.ph = m ∧ rc.blk = some blk ∧ b = D.base + i ∧ Ahead D.r i j
  run : Ever D V j fun TL => f.run D.call [] TL pre (D.base + j) n = some (.pan v h nx)

section
variable {D : DC0} {V : VT} {T : HT} {k : Nat} {d d' : Draw}

theorem DS.act_phs (h : DS D V T k d) {j : Nat} {rc : Rec} (hj : V j = some rc) (ha : rc.act = true) : ∃ x, T rc.ph = some x ∧ x.ix = j := by
  obtain ⟨o, anc, _, _, _, b, _, h1, h2⟩ := h.fact j rc hj
  cases b with
  | true =>
    have h1 := h1 rfl
    cases hc : cKind D.P D.cx o.op with
    | rd f mem => rw [hc] at h1; rw [h1.1] at ha; cases ha
    | al f => rw [hc] at h1; rw [h1.1] at ha; cases ha
    | ac f => rw [hc] at h1; obtain ⟨_, _, x, n, h3, h4, _⟩ := h1; exact ⟨x, h3, h4⟩
    | df f l => rw [hc] at h1; exact h1.elim
    | rc => rw [hc] at h1; exact h1.elim
    | no => rw [hc] at h1; exact h1.elim
  | false =>
    obtain ⟨_, _, _, h3⟩ := h2 rfl
    obtain ⟨x, n, h4, h5, _⟩ := h3 ha
    exact ⟨x, h4, h5⟩
theorem DS.act_kind (h : DS D V T k d) {j : Nat} {rc : Rec} {o : Oper} (hj : V j = some rc) (ho : D.l[j]? = some o) : rc.act = isAc (cKind D.P D.cx o.op) := by
  obtain ⟨o', anc, ho', _, _, b, _, h1, h2⟩ := h.fact j rc hj
  rw [ho] at ho'; cases ho'
  cases b with
  | true =>
    have h1 := h1 rfl
    cases hc : cKind D.P D.cx o.op with
    | rd f mem => rw [hc] at h1; rw [h1.1]; rfl
    | al f => rw [hc] at h1; rw [h1.1]; rfl
    | ac f => rw [hc] at h1; rw [h1.1]; rfl
    | df f l => rw [hc] at h1; exact h1.elim
    | rc => rw [hc] at h1; exact h1.elim
    | no => rw [hc] at h1; exact h1.elim
  | false => exact (h2 rfl).2.2.1

theorem get_nodup {l : List Nat} (hl : l.Pairwise (· < ·)) {i k x : Nat} (hi : l[i]? = some x) (hk : l[k]? = some x) : i = k := by
  obtain ⟨h1, h2⟩ := List.getElem?_eq_some_iff.1 hi
  obtain ⟨h3, h4⟩ := List.getElem?_eq_some_iff.1 hk
  rw [List.pairwise_iff_getElem] at hl
  rcases Nat.lt_trichotomy i k with h | h | h
  · have := hl i k h1 h3 h; omega
  · exact h
  · have := hl k i h3 h1 h; omega

def EffOut (D : DC0) (res : DOut) : Prop := match res with
  | .ok d' => ∃ V' T' m, DS D V' T' m d' ∧ ∀ p j, D.es[p]? = some j → p < m
  | .pan v h nx => ∃ V' T' m d' j o f pre n, PanEnd D V' T' m d' j o f pre n v h nx

/-- the effects, from the k-th on -/
theorem effects_ok (hD : D.Ok) (hord : D.es.Pairwise (· < ·)) {q : List CA} (hq : Ofs D q) (hqall : ∀ j o anc, D.l[j]? = some o → D.r[j]? = some anc → D.ca j o anc ∈ q) :
    ∀ {rest : List CA} {k : Nat} {V : VT} {T : HT} {d : Draw} {prev : Nat} {res : DOut}, Ofs D rest → (∀ c ∈ rest, isAc c.op.k = true) → mapL (fun c => c.i) rest = D.es.drop k → (∀ p x, T p = some x → p + 1 = k → prev = Nat.pow 2 x.ix) →
      DS D V T k d → (∀ j rc, V j = some rc → rc.ph < k) → effects D.es D.base q D.call rest prev d = some res → EffOut D res := by
  intro rest
  induction rest with
  | nil =>
    intro k V T d prev res _ _ hes _ hds _ hrun
    cases hrun
    refine ⟨V, T, k, hds, fun p j hp => ?_⟩
    have hlen : (D.es.drop k).length = 0 := by rw [← hes]; rfl
    rw [List.length_drop] at hlen
    have := (List.getElem?_eq_some_iff.1 hp).1
    omega
  | cons c rest ih =>
    intro k V T d prev res hofs hac hes hprev hds hlt hrun
    obtain ⟨hp, hrun1⟩ := guardB_some hrun
    obtain ⟨d1, hd1, hrun2⟩ := ob_some (x := quietAll D.es D.base (fun x => hasBit c.anc x.i) q d) hrun1
    obtain ⟨hs, hrun3⟩ := guardB_some hrun2
    obtain ⟨b, hb, hrun4⟩ := ob_some (x := wantG c.op.g [] d1.tl) hrun3
    obtain ⟨o, ho, ha, hce⟩ := hofs c (by simp)
    have hacc := hac c (by simp)
    generalize hj : c.i = j at *
    generalize hanc : c.anc = anc at *
    subst hce
    have hek : D.es[k]? = some j := by
      have h1 : (D.es.drop k)[0]? = some j := by rw [← hes]; rfl
      rw [List.getElem?_drop] at h1; simpa using h1
    have hrest : mapL (fun c => c.i) rest = D.es.drop (k + 1) := by
      have h1 : (j :: mapL (fun c => c.i) rest) = D.es.drop k := hes
      rw [← List.tail_drop, ← h1]; rfl
    obtain ⟨V1, hds1, hadd, _⟩ := quietAll_ok hD hq hds hd1
    have hs' : subB anc d1.done = true := hs
    -- the effect is not done yet
    have hn1 : V1 j = none := by
      cases hv : V1 j with
      | none => rfl
      | some rc =>
        exfalso
        have hact := hds1.act_kind hv ho
        rcases hadd.new j rc hv with h1 | ⟨_, h2, x, hx, hxj, hpk⟩
        · have hph := hlt j rc h1
          by_cases hd0 : ∀ t, o.dst = some t → t < D.N
          · rw [(ca_of_lt hd0).1] at hacc
            rw [hacc] at hact
            obtain ⟨y, hy, hyj⟩ := hds.act_phs h1 hact
            have h2 := (hds.phs _ y hy).2.1
            rw [hyj] at h2
            have := get_nodup hord h2 hek
            omega
          · obtain ⟨o', _, ho', _, hd', _⟩ := hds.fact j rc h1
            rw [ho] at ho'; cases ho'
            exact hd0 hd'
        · have : Ahead D.r j j := ⟨anc, ha, by rw [← hxj]; exact hpk⟩
          have := ahead_lt hD.anc this
          omega
    -- what comes ahead of the effect
    have hch : ∀ p y, T p = some y → Ahead D.r y.ix j := by
      have hlast : ∀ p y, T p = some y → p + 1 = k → Ahead D.r y.ix j := by
        intro p y hy hpk
        refine ⟨anc, ha, ?_⟩
        have h1 : subB prev anc = true := hp
        refine subB_ok h1 ?_
        rw [hprev p y hy hpk, hasBit_pow]
        exact decide_eq_true rfl
      intro p y hy
      have hpk := (hds.phs p y hy).1
      by_cases hpe : p + 1 = k
      · exact hlast p y hy hpe
      · obtain ⟨z, hz⟩ := hds.all (k - 1) (by omega)
        exact ahead_trans hD.anc (hds.chain p (k - 1) y z (by omega) hy hz) (hlast (k - 1) z hz (by omega))
    have hah : ∀ i q, V1 i = some q → q.act = false → q.ph = k → Ahead D.r i j := by
      intro i q1 hi hqa hqk
      rcases hadd.new i q1 hi with h1 | ⟨_, _, x, hx, hxj, hpk⟩
      · have := hlt i q1 h1; omega
      · exact ⟨anc, ha, by rw [← hxj]; exact hpk⟩
    have hTk : T k = none := by
      cases hT : T k with
      | none => rfl
      | some x => have := (hds.phs k x hT).1; omega
    have hofs' : Ofs D rest := fun x hx => hofs x (by simp [hx])
    have hac' : ∀ x ∈ rest, isAc x.op.k = true := fun x hx => hac x (by simp [hx])
    -- what follows
    have next : ∀ (v : AV) (h' : Heap) (nx' : Nat), (∀ t, o.dst = some t → t < D.N) → Fact D V1 (hput T k ⟨d1.h, h', nx', j⟩) j ⟨v, none, k, true⟩ →
        effects D.es D.base q D.call rest (Nat.pow 2 j) (eDone (D.ca j o anc) d1 v h' nx') = some res → EffOut D res := by
      intro v h' nx' hd hfact hrun5
      have hds2 := hds1.eff hD ho ha hs' hn1 hd hek hch hah v h' nx' hfact
      refine ih hofs' hac' hrest ?_ hds2 ?_ hrun5
      · intro p x hx hpk
        have : p = k := by omega
        subst this
        rw [hput_self] at hx; cases hx; rfl
      · intro i rc hi
        have := hds2.ph i rc hi
        by_cases hij : i = j
        · subst hij; rw [vput_self] at hi; cases hi; exact Nat.lt_succ_self _
        · rw [vput_ne _ _ hij] at hi
          have := hds1.ph i rc hi; omega
    have htx : HExt T (hput T k ⟨d1.h, d1.h, d1.nx, j⟩) := hput_ext hTk
    cases b with
    | false =>
      have hd : ∀ t, o.dst = some t → t < D.N := by
        intro t ht
        cases hlt2 : Nat.blt t D.N with
        | true => exact natBlt hlt2
        | false =>
          exfalso
          have : (D.ca j o anc).op = ⟨.no, .none, .yes⟩ := by
            show cOp D.P D.N D.cx D.l o = _
            unfold cOp
            rw [ht]
            simp only [cDst, hlt2, sel_false]
          rw [this] at hb
          cases hb
      obtain ⟨hk, hg, _⟩ := ca_of_lt (D := D) (j := j) (anc := anc) hd
      rw [hg] at hb
      rw [hk] at hacc
      refine next (.tuple []) d1.h d1.nx hd ?_ hrun4
      refine ⟨o, anc, ho, ha, hd, false, hds1.ever_guard hD ho ha hs' hn1 hb, (fun e => by cases e), fun _ => ⟨rfl, rfl, hacc.symm, fun _ => ⟨_, d1.nx, hput_self _ _ _, rfl, rfl, ?_, rfl⟩⟩⟩
      exact nxAt_mono htx hds1.nx
    | true =>
      have hno : (D.ca j o anc).op.k ≠ .no := by
        intro e
        change eOp D.es D.base q D.call (D.ca j o anc) d1 _ (D.ca j o anc).op.k = some res at hrun4
        rw [e] at hrun4
        cases hrun4
      have hd := ca_lt rfl hno
      obtain ⟨hk, hg, _⟩ := ca_of_lt (D := D) (j := j) (anc := anc) hd
      rw [hg] at hb
      have hguard := hds1.ever_guard hD ho ha hs' hn1 hb
      have hsame := hds1.ever_same hD ho ha hs' hn1
      change eOp D.es D.base q D.call (D.ca j o anc) d1 _ (D.ca j o anc).op.k = some res at hrun4
      rw [hk] at hrun4
      cases hc : cKind D.P D.cx o.op with
      | rd f mem => rw [hc] at hrun4; cases hrun4
      | al f => rw [hc] at hrun4; cases hrun4
      | df f l => rw [hc] at hrun4; cases hrun4
      | rc => rw [hc] at hrun4; cases hrun4
      | no => rw [hc] at hrun4; cases hrun4
      | ac f =>
        rw [hc] at hrun4 hsame
        obtain ⟨r, hr, hrun5⟩ := ob_some (x := f.run D.call [] d1.tl d1.h (Nat.add D.base j) d1.nx) hrun4
        have hever : Ever D V1 j fun TL => f.run D.call [] TL d1.h (D.base + j) d1.nx = some r := by
          intro W TL hW hTL
          exact (hsame W TL hW hTL _ _ _ _).symm.trans hr
        cases r with
        | val v h' nx' =>
          refine next v h' nx' hd ?_ hrun5
          refine ⟨o, anc, ho, ha, hd, true, hguard, fun _ => ?_, (fun e => by cases e)⟩
          rw [hc]
          exact ⟨rfl, rfl, _, d1.nx, hput_self _ _ _, rfl, nxAt_mono (hput_ext hTk) hds1.nx, hever⟩
        | pan v h' nx' =>
          obtain ⟨d2, hd2, hrun6⟩ := ob_some (x := quietAll D.es D.base (fun x => andB (notB (hasBit x.anc j)) (notB (Nat.beq x.i j))) q d1) hrun5
          cases hrun6
          obtain ⟨V2, hds2, hadd2, hall2⟩ := quietAll_ok hD hq hds1 hd2
          refine ⟨V2, T, k, d2, j, o, f, d1.h, d1.nx, hds2, ho, ?_, ?_, ?_, hch, hc, hd, hguard.mono (hds1.sub ha hs') hadd2.ext, hds1.nx, ?_, hever.mono (hds1.sub ha hs') hadd2.ext⟩
          · cases hv : V2 j with
            | none => rfl
            | some rc =>
              exfalso
              rcases hadd2.new j rc hv with h1 | ⟨_, _, x, hx, hxj, hpk⟩
              · rw [hn1] at h1; cases h1
              · have := (andB_true hpk).2
                rw [hxj, Nat.beq_refl] at this
                cases this
          · intro i p hi hij hna
            obtain ⟨a, ha2⟩ : ∃ a, D.r[i]? = some a := by
              have : i < D.r.length := by rw [hD.plan.len]; exact (List.getElem?_eq_some_iff.1 hi).1
              exact ⟨_, List.getElem?_eq_getElem this⟩
            refine hall2 _ (hqall i p a hi ha2) ?_
            have h1 : hasBit a j = false := by
              cases hb2 : hasBit a j with
              | false => rfl
              | true => exact absurd ⟨a, ha2, hb2⟩ hna
            have h2 : Nat.beq i j = false := by
              cases hb2 : Nat.beq i j with
              | false => rfl
              | true => exact absurd (natBeq hb2) hij
            show andB (notB (hasBit a j)) (notB (Nat.beq i j)) = true
            rw [h1, h2]
          · intro i hi
            obtain ⟨rc, hrc⟩ := hds1.sub ha hs' i hi
            exact ⟨rc, hadd2.ext _ _ hrc⟩
          · obtain ⟨C, hC, hlo, hallC⟩ := hds1.heap
            refine ⟨C, hC, hlo, fun b blk hb6 hb2 => ?_⟩
            rcases hallC b blk hb6 hb2 with h1 | ⟨i, q1, h1, h2, h3, h4⟩
            · exact .inl h1
            · refine .inr ⟨i, q1, hadd2.ext _ _ h1, h2, h3, h4, hah i q1 h1 ?_ h2⟩
              cases hqa : q1.act with
              | false => rfl
              | true =>
                obtain ⟨x, hx, _⟩ := hds1.act_phs h1 hqa
                rw [h2, hTk] at hx; cases hx
end
end Go.AE

/-
A symbolic executor: any order of a region's operations: what stands between two of them.
-/
namespace Go.AE

/-- a table, as far as it is listed -/
noncomputable def lim (V : VT) (S : Nat → Prop) : VT := fun j => open Classical in if S j then V j else none
theorem lim_yes {V : VT} {S : Nat → Prop} {j : Nat} (h : S j) : lim V S j = V j := by simp [lim, h]
theorem lim_no {V : VT} {S : Nat → Prop} {j : Nat} (h : ¬ S j) : lim V S j = none := by simp [lim, h]
theorem lim_ext (V : VT) (S : Nat → Prop) : Extends (lim V S) V := by
  intro j rc h
  by_cases hs : S j
  · rw [lim_yes hs] at h; exact h
  · rw [lim_no hs] at h; cases h

/-- one more is listed -/
def more1 (S : Nat → Prop) (i : Nat) : Nat → Prop := fun j => S j ∨ j = i

structure RI (D : DC0) (e : Syms) (V : VT) (T : HT) (m : Nat) (φ0 : Ph) (w0 : World) (df : List Deferred) (S : Nat → Prop) (k : Nat) (φ : Ph) (C : Heap) (n : Nat) (A : Act) (w : World) : Prop where
  inV : ∀ j, S j → ∃ rc, V j = some rc
  closed : ∀ j i, S j → Ahead D.r i j → S i
  eff : ∀ p x, T p = some x → (S x.ix ↔ p < k)
  kle : k ≤ m
  hC : heapAt D.h0 T k = some C
  hn : nxAt D.n0 T k = some n
  nge : D.base + D.l.length ≤ n
  ps : PS D.P.globals.size φ0 e D.h0 D.base w0 φ C n w
  ar : ∀ tlS, TLOk D.l (lim V S) D.dp D.tm tlS → AR φ e D.N D.cx [] tlS A
  early : ∀ j rc blk, S j → V j = some rc → rc.blk = some blk → k ≤ rc.ph → ∃ L, φ (D.base + j) = some L ∧ BR φ e w L blk ∧ ¬ Here φ C L.B ∧ w0.heap.size ≤ L.B
  dist : ∀ j j' rc rc' L L', S j → S j' → V j = some rc → V j' = some rc' → rc.blk ≠ none → rc'.blk ≠ none → k ≤ rc.ph → k ≤ rc'.ph → φ (D.base + j) = some L → φ (D.base + j') = some L' → j ≠ j' → L.B ≠ L'.B
  late : ∀ j, j < D.l.length → ¬ S j → φ (D.base + j) = none
  df : A.defers = df
  ex0 : ∀ B, exB e B → B < w0.heap.size

section
variable {D : DC0} {e : Syms} {V : VT} {T : HT} {m k n : Nat} {φ0 φ φ' : Ph} {w0 w w' : World} {df : List Deferred} {S : Nat → Prop} {C : Heap} {A : Act} {d : Draw}

theorem DS.lt (h : DS D V T m d) {j : Nat} {rc : Rec} (hj : V j = some rc) : j < D.l.length := by
  obtain ⟨o, _, ho, _⟩ := h.fact j rc hj
  exact (List.getElem?_eq_some_iff.1 ho).1

/-- what a look may show -/
theorem RI.rv (h : RI D e V T m φ0 w0 df S k φ C n A w) (hds : DS D V T m d) {M : Heap} (hM : Sub D V T k M) : RV D.P.globals.size φ e M w := by
  obtain ⟨C', hC', _, hall⟩ := hM
  rw [h.hC] at hC'; cases hC'
  refine ⟨fun b blk L hL hg => ?_, fun b L hL => (h.ps.rw.dom b L hL).2, h.ps.rw.gl⟩
  rcases hall b blk (h.ps.rw.dom b L hL).2 hg with h1 | ⟨j, rc, h1, h2, h3, rfl⟩
  · exact h.ps.rw.rv.read b blk L hL h1
  · have hS : S j := by
      apply Classical.byContradiction
      intro hn
      rw [h.late j (hds.lt h1) hn] at hL; cases hL
    obtain ⟨L', hL', hB, _⟩ := h.early j rc blk hS h1 h3 (by omega)
    rw [hL] at hL'; cases hL'
    exact hB

theorem RI.ph_ge (h : RI D e V T m φ0 w0 df S k φ C n A w) (hds : DS D V T m d) {i : Nat} {rc : Rec} (hi : V i = some rc) (ha : rc.act = false) (hS : ¬ S i) : k ≤ rc.ph := by
  apply Classical.byContradiction
  intro hn
  obtain ⟨x, hx⟩ := hds.all rc.ph (by have := h.kle; omega)
  exact hS (h.closed x.ix i ((h.eff _ x hx).2 (by omega)) (hds.ahead i rc x hi ha hx))

theorem RI.pop_le (h : RI D e V T m φ0 w0 df S k φ C n A w) (hds : DS D V T m d) (hord : D.es.Pairwise (· < ·)) (hes : ∀ q j : Nat, D.es[q]? = some j → ∃ o anc, D.l[j]? = some o ∧ isAc (D.ca j o anc).op.k = true)
    {i anc : Nat} (ha : D.r[i]? = some anc) (hanc : ∀ j, Ahead D.r j i → S j) : popBits anc D.es ≤ k := by
  refine popBits_le anc D.es k (fun q j hq hb => ?_)
  have hS := hanc j ⟨anc, ha, hb⟩
  obtain ⟨rc, hrc⟩ := h.inV j hS
  obtain ⟨o, anc', ho, hac⟩ := hes q j hq
  obtain ⟨o', _, ho', _, hd, _⟩ := hds.fact j rc hrc
  rw [ho] at ho'; cases ho'
  rw [(ca_of_lt hd).1] at hac
  have hact := hds.act_kind hrc ho
  rw [hac] at hact
  obtain ⟨x, hx, hxj⟩ := hds.act_phs hrc hact
  have h2 := (hds.phs _ x hx).2.1
  rw [hxj] at h2
  have := get_nodup hord hq h2
  rw [this]
  rw [← hxj] at hS
  exact (h.eff _ x hx).1 hS

/-- a result is written -/
theorem ar_put (hp : PlanOk D.l D.r) (hN : D.N ≤ 2 ^ D.dp) (har : ∀ tlS, TLOk D.l (lim V S) D.dp D.tm tlS → AR φ e D.N D.cx [] tlS A) (hle : Phi.le φ φ') {i : Nat} {o : Oper} {rc : Rec} {u : Value} (hi : V i = some rc) (hS : ¬ S i)
    (ho : D.l[i]? = some o) (hd : ∀ t, o.dst = some t → t < D.N) (hu : VR φ' e rc.val u) : ∀ tlS, TLOk D.l (lim V (more1 S i)) D.dp D.tm tlS → AR φ' e D.N D.cx [] tlS (A.put o.dst u) := by
  intro tl' htl'
  obtain ⟨tl, htl⟩ := exists_tl hp (lim V S) D.dp D.tm
  have hA := (har tl htl).mono hle
  have hsize : (A.put o.dst u).tmps.size = A.tmps.size := by cases o.dst <;> simp [Act.put]
  have hw : ∀ t v, Wrote D.l (lim V (more1 S i)) t v → (o.dst = some t ∧ v = rc.val) ∨ (o.dst ≠ some t ∧ Wrote D.l (lim V S) t v) := by
    rintro t v ⟨j, p, q, hj, hpd, hv, rfl⟩
    by_cases hji : j = i
    · subst hji
      rw [ho] at hj; cases hj
      rw [lim_yes (.inr rfl), hi] at hv; cases hv
      exact .inl ⟨hpd, rfl⟩
    · have hSj : S j := by
        apply Classical.byContradiction
        intro hn
        rw [lim_no (fun h => h.elim hn hji)] at hv; cases hv
      rw [lim_yes (.inl hSj)] at hv
      refine .inr ⟨fun e1 => hji ?_, j, p, q, hj, hpd, by rw [lim_yes hSj]; exact hv, rfl⟩
      exact (hp.dst i j o p t ho hj e1 hpd).symm
  have hw' : ∀ t v, Wrote D.l (lim V S) t v → Wrote D.l (lim V (more1 S i)) t v := by
    rintro t v ⟨j, p, q, hj, hpd, hv, rfl⟩
    have hSj : S j := by
      apply Classical.byContradiction
      intro hn
      rw [lim_no hn] at hv; cases hv
    rw [lim_yes hSj] at hv
    exact ⟨j, p, q, hj, hpd, by rw [lim_yes (.inl hSj)]; exact hv, rfl⟩
  have hgd : ∀ t, o.dst ≠ some t → (A.put o.dst u).tmps.getD t undef = A.tmps.getD t undef := by
    intro t hne
    cases hdst : o.dst with
    | none => rfl
    | some q => rw [getD_put, if_neg (fun h => hne (by rw [hdst, h.1]))]
  refine ⟨hsize.trans hA.size, hN, fun t v ht hv => ?_, fun t ht hb => ?_, fun t j v hj _ => by cases hj⟩
  · change t < 2 ^ D.dp at ht
    change tget D.dp t tl' = some v at hv
    by_cases hx : ∃ x, Wrote D.l (lim V (more1 S i)) t x
    · obtain ⟨x, hx⟩ := hx
      have := htl'.yes t x ht hx
      rw [this] at hv; cases hv
      rcases hw t v hx with ⟨h1, rfl⟩ | ⟨h1, h2⟩
      · have hlt := hd t h1
        rw [h1, getD_put, if_pos ⟨rfl, by rw [hA.size]; exact hlt⟩]
        exact hu
      · rw [hgd t h1]
        exact hA.val t v ht (htl.yes t v ht h2)
    · have h1 := htl'.no t ht (fun x h2 => hx ⟨x, h2⟩)
      rw [h1] at hv
      have hne : o.dst ≠ some t := fun e1 => hx ⟨rc.val, i, o, rc, ho, e1, by rw [lim_yes (.inr rfl)]; exact hi, rfl⟩
      rw [hgd t hne]
      refine hA.val t v ht ?_
      show tget D.dp t tl = some v
      rw [htl.no t ht (fun x h2 => hx ⟨x, hw' t x h2⟩)]
      exact hv
  · change hasBit 0 t = true at hb
    rw [hasBit_zero] at hb; cases hb

theorem more1_anc {i : Nat} (hcl : ∀ j g, S j → Ahead D.r g j → S g) (hanc : ∀ j, Ahead D.r j i → S j) : ∀ j g, more1 S i j → Ahead D.r g j → more1 S i g := by
  intro j g hj hg
  rcases hj with hj | rfl
  · exact .inl (hcl j g hj hg)
  · exact .inl (hanc g hg)

/-- a quiet operation that makes nothing -/
theorem RI.quiet (hD : D.Ok) (h : RI D e V T m φ0 w0 df S k φ C n A w) (hds : DS D V T m d) {i : Nat} {o : Oper} {rc : Rec} {u : Value} (hi : V i = some rc) (hS : ¬ S i) (ho : D.l[i]? = some o)
    (hanc : ∀ j, Ahead D.r j i → S j) (hact : rc.act = false) (hblk : rc.blk = none) (hu : VR φ e rc.val u) : RI D e V T m φ0 w0 df (more1 S i) k φ C n (A.put o.dst u) w := by
  obtain ⟨o', _, ho', _, hd, _⟩ := hds.fact i rc hi
  rw [ho] at ho'; cases ho'
  refine ⟨?_, more1_anc h.closed hanc, ?_, h.kle, h.hC, h.hn, h.nge, h.ps, ar_put hD.plan hD.dep h.ar (fun _ _ h => h) hi hS ho hd hu, ?_, ?_, ?_, ?_, h.ex0⟩
  · rintro j (hj | rfl)
    · exact h.inV j hj
    · exact ⟨rc, hi⟩
  · intro p x hx
    rw [← h.eff p x hx]
    constructor
    · rintro (h1 | h1)
      · exact h1
      · exfalso
        obtain ⟨_, _, q, hq, hqa, _⟩ := hds.phs p x hx
        rw [h1, hi] at hq; cases hq
        rw [hact] at hqa; cases hqa
    · exact .inl
  · rintro j q blk (hj | rfl) hq hb hph
    · exact h.early j q blk hj hq hb hph
    · rw [hi] at hq; cases hq; rw [hblk] at hb; cases hb
  · rintro j j' q q' L L' (hj | rfl) (hj' | rfl) hq hq' hb hb' hph hph' hL hL' hne
    · exact h.dist j j' q q' L L' hj hj' hq hq' hb hb' hph hph' hL hL' hne
    · rw [hi] at hq'; cases hq'; exact absurd hblk hb'
    · rw [hi] at hq; cases hq; exact absurd hblk hb
    · exact absurd rfl hne
  · intro j hj hn
    exact h.late j hj (fun h1 => hn (.inl h1))
  · rw [Act.put_defers]; exact h.df

/-- a quiet operation that makes a block -/
theorem RI.alloc (hD : D.Ok) (h : RI D e V T m φ0 w0 df S k φ C n A w) (hds : DS D V T m d) {i : Nat} {o : Oper} {rc : Rec} {u : Value} {blk : Blk} {L : Loc} (hi : V i = some rc) (hS : ¬ S i) (ho : D.l[i]? = some o)
    (hanc : ∀ j, Ahead D.r j i → S j) (hact : rc.act = false) (hblk : rc.blk = some blk) (h6 : HOk (D.base + i)) (hf : Fresh w w') (hLB : L.B = w.heap.size) (hu : VR (upd φ (D.base + i) L) e rc.val u)
    (hB : BR (upd φ (D.base + i) L) e w' L blk) : RI D e V T m φ0 w0 df (more1 S i) k (upd φ (D.base + i) L) C n (A.put o.dst u) w' := by
  obtain ⟨o', _, ho', _, hd, _⟩ := hds.fact i rc hi
  rw [ho] at ho'; cases ho'
  have hlen : i < D.l.length := hds.lt hi
  have hid : φ (D.base + i) = none := h.late i hlen hS
  have hle : Phi.le φ (upd φ (D.base + i) L) := upd_le hid
  obtain ⟨hrw, hfr⟩ := h.ps.rw.grow (L := L) hid h6 (by have := h.nge; omega) hf
  have hne : ∀ j, j ≠ i → upd φ (D.base + i) L (D.base + j) = φ (D.base + j) := fun j hj => upd_ne _ _ (by omega)
  have hsz : w0.heap.size ≤ w.heap.size := h.ps.fr.size
  have hlive : ∀ B, Here (upd φ (D.base + i) L) C B → Here φ C B ∧ B < w.heap.size := by
    rintro B ⟨b, bl, K, hg, hK, rfl⟩
    obtain ⟨K', hK', hB'⟩ := h.ps.rw.live b bl (hok b) hg
    rw [hle b K' hK'] at hK; cases hK
    exact ⟨⟨b, bl, K, hg, hK', rfl⟩, hB'.lt⟩
  refine ⟨?_, more1_anc h.closed hanc, ?_, h.kle, h.hC, h.hn, h.nge, ?_, ar_put hD.plan hD.dep h.ar hle hi hS ho hd hu, ?_, ?_, ?_, ?_, h.ex0⟩
  · rintro j (hj | rfl)
    · exact h.inV j hj
    · exact ⟨rc, hi⟩
  · intro p x hx
    rw [← h.eff p x hx]
    constructor
    · rintro (h1 | h1)
      · exact h1
      · exfalso
        obtain ⟨_, _, q, hq, hqa, _⟩ := hds.phs p x hx
        rw [h1, hi] at hq; cases hq
        rw [hact] at hqa; cases hqa
    · exact .inl
  · refine ⟨fun b hb => ?_, h.ps.nx, h.ps.fr.trans hfr, hrw⟩
    rw [upd_ne _ _ (show b ≠ D.base + i by omega)]
    exact h.ps.ext b hb
  · rintro j q bl (hj | rfl) hq hb hph
    · obtain ⟨K, hK, hKB, hnl, hge⟩ := h.early j q bl hj hq hb hph
      exact ⟨K, hle _ _ hK, (hKB.mono hle).same (hf.old _ hKB.lt), fun hl => hnl (hlive _ hl).1, hge⟩
    · rw [hi] at hq; cases hq
      rw [hblk] at hb; cases hb
      refine ⟨L, upd_self _ _ _, hB, fun hl => ?_, by omega⟩
      have := (hlive _ hl).2; omega
  · have hlt : ∀ j q K, S j → V j = some q → q.blk ≠ none → k ≤ q.ph → φ (D.base + j) = some K → K.B < w.heap.size := by
      intro j q K hj hq hb hph hK
      cases hqb : q.blk with
      | none => exact absurd hqb hb
      | some bl =>
        obtain ⟨K', hK', hKB, _⟩ := h.early j q bl hj hq hqb hph
        rw [hK] at hK'; cases hK'
        exact hKB.lt
    rintro j j' q q' K K' (hj | rfl) (hj' | rfl) hq hq' hb hb' hph hph' hK hK' hne'
    · have hji : j ≠ i := fun e1 => hS (e1 ▸ hj)
      have hji' : j' ≠ i := fun e1 => hS (e1 ▸ hj')
      rw [hne j hji] at hK
      rw [hne j' hji'] at hK'
      exact h.dist j j' q q' K K' hj hj' hq hq' hb hb' hph hph' hK hK' hne'
    · have hji : j ≠ j' := hne'
      rw [hne j hji] at hK
      rw [upd_self] at hK'; cases hK'
      have := hlt j q K hj hq hb hph hK
      omega
    · have hji : j' ≠ j := fun e1 => hne' e1.symm
      rw [hne j' hji] at hK'
      rw [upd_self] at hK; cases hK
      have := hlt j' q' K' hj' hq' hb' hph' hK'
      omega
    · exact absurd rfl hne'
  · intro j hj hn
    have hji : j ≠ i := fun e1 => hn (.inr e1)
    rw [hne j hji]
    exact h.late j hj (fun h1 => hn (.inl h1))
  · rw [Act.put_defers]; exact h.df

/-- the memory ahead of an effect -/
theorem RI.at_pre (h : RI D e V T m φ0 w0 df S k φ C n A w) {X : Nat → Prop} {pre : Heap} (hanc : ∀ j, X j → S j)
    (hpre : ∃ C, heapAt D.h0 T k = some C ∧ pre.lo = C.lo ∧ ∀ b blk, HOk b → hget pre b = some blk → hget C b = some blk ∨ ∃ j rc, V j = some rc ∧ rc.ph = k ∧ rc.blk = some blk ∧ b = D.base + j ∧ X j) :
    PS D.P.globals.size φ0 e D.h0 D.base w0 φ pre n w ∧
      ∀ B, Here φ pre B → Here φ C B ∨ ∃ j rc L, S j ∧ V j = some rc ∧ rc.ph = k ∧ rc.blk ≠ none ∧ φ (D.base + j) = some L ∧ L.B = B ∧ w0.heap.size ≤ B := by
  obtain ⟨C', hC', hlo, hall⟩ := hpre
  rw [h.hC] at hC'; cases hC'
  have hlv : ∀ b blk L, hget pre b = some blk → φ b = some L → hget C b = some blk ∨ ∃ j rc, S j ∧ V j = some rc ∧ rc.ph = k ∧ rc.blk ≠ none ∧ φ (D.base + j) = some L ∧ w0.heap.size ≤ L.B := by
    intro b blk L hg hL
    rcases hall b blk (hok b) hg with h1 | ⟨j, rc, h1, h2, h3, rfl, h5⟩
    · exact .inl h1
    · right
      obtain ⟨L', hL', _, _, hge⟩ := h.early j rc blk (hanc j h5) h1 h3 (by omega)
      rw [hL] at hL'; cases hL'
      exact ⟨j, rc, hanc j h5, h1, h2, (by rw [h3]; simp), hL, hge⟩
  refine ⟨⟨h.ps.ext, h.ps.nx, ⟨h.ps.fr.size, h.ps.fr.keep, ?_, h.ps.fr.os, h.ps.fr.tape, h.ps.fr.output, hlo.trans h.ps.fr.lo, ?_⟩, ?_⟩, ?_⟩
  · rintro B ⟨b, blk, L, hb, hg, hL, rfl⟩ hB
    rcases hlv b blk L hg hL with h1 | ⟨_, _, _, _, _, _, _, hge⟩
    · exact h.ps.fr.new _ ⟨b, blk, L, by rw [← hro_of_lo hlo b]; exact hb, h1, hL, rfl⟩ hB
    · omega
  · rintro B ⟨b, blk, L, hg, hL, rfl⟩ hB
    rcases hlv b blk L hg hL with h1 | ⟨_, _, _, _, _, _, _, hge⟩
    · exact h.ps.fr.here _ ⟨b, blk, L, h1, hL, rfl⟩ hB
    · omega
  · refine h.ps.rw.more hlo (fun b blk hb hg => ?_) (fun b b' blk blk' L L' hb hb' hg hg' hC1 hC2 hL hL' hne => ?_)
    · rcases hall b blk hb hg with h1 | ⟨j, rc, h1, h2, h3, rfl, h5⟩
      · exact .inl h1
      · obtain ⟨L', hL', hB, hnl, hge⟩ := h.early j rc blk (hanc j h5) h1 h3 (by omega)
        exact .inr ⟨L', hL', hB, hnl, fun hex => by have := h.ex0 _ hex; omega⟩
    · rcases hall b blk hb hg with h1 | ⟨j, rc, h1, h2, h3, rfl, h5⟩
      · rw [hC1] at h1; cases h1
      · rcases hall b' blk' hb' hg' with h1' | ⟨j', rc', h1', h2', h3', rfl, h5'⟩
        · rw [hC2] at h1'; cases h1'
        · exact h.dist j j' rc rc' L L' (hanc j h5) (hanc j' h5') h1 h1' (by rw [h3]; simp) (by rw [h3']; simp) (by omega) (by omega) hL hL' (by intro e1; exact hne (by rw [e1]))
  · rintro B ⟨b, blk, L, hg, hL, rfl⟩
    rcases hlv b blk L hg hL with h1 | ⟨j, rc, h1, h2, h3, h4, h5, hge⟩
    · exact .inl ⟨b, blk, L, h1, hL, rfl⟩
    · exact .inr ⟨j, rc, L, h1, h2, h3, h4, h5, rfl, hge⟩

/-- an effect -/
theorem RI.effect (hD : D.Ok) (h : RI D e V T m φ0 w0 df S k φ C n A w) (hds : DS D V T m d) (hord : D.es.Pairwise (· < ·)) {i : Nat} {o : Oper} {rc : Rec} {u : Value} {x : Phs} (hi : V i = some rc) (hS : ¬ S i) (ho : D.l[i]? = some o)
    (hanc : ∀ j, Ahead D.r j i → S j) (hblk : rc.blk = none) (hx : T k = some x) (hix : x.ix = i) (hph : rc.ph = k) (hpost : Post D.P.globals.size φ e x.pre n w (D.base + i) φ' x.post x.nx w') (hu : VR φ' e rc.val u) :
    RI D e V T m φ0 w0 df (more1 S i) (k + 1) φ' x.post x.nx (A.put o.dst u) w' := by
  obtain ⟨o', _, ho', _, hd, _⟩ := hds.fact i rc hi
  rw [ho] at ho'; cases ho'
  have hlen : i < D.l.length := hds.lt hi
  have hpre := hds.pre k x hx
  rw [hix] at hpre
  obtain ⟨hps, hlv⟩ := h.at_pre hanc hpre
  have hnge := h.nge
  have hkm := (hds.phs k x hx).1
  have hsame : ∀ j, j < D.l.length → j ≠ i → φ' (D.base + j) = φ (D.base + j) := fun j hj hji => hpost.ext (D.base + j) (by omega) (by omega)
  refine ⟨?_, more1_anc h.closed hanc, ?_, hkm, ?_, ?_, ?_, ?_, ar_put hD.plan hD.dep h.ar hpost.le hi hS ho hd hu, ?_, ?_, ?_, ?_, h.ex0⟩
  · rintro j (hj | rfl)
    · exact h.inV j hj
    · exact ⟨rc, hi⟩
  · intro p y hy
    constructor
    · rintro (h1 | h1)
      · have := (h.eff p y hy).1 h1; omega
      · have h2 := (hds.phs p y hy).2.1
        have h3 := (hds.phs k x hx).2.1
        rw [h1] at h2
        rw [hix] at h3
        have := get_nodup hord h2 h3; omega
    · intro hp
      by_cases hpk : p = k
      · subst hpk
        rw [hx] at hy; cases hy
        exact .inr hix
      · exact .inl ((h.eff p y hy).2 (by omega))
  · show (T k).map _ = _; rw [hx]; rfl
  · show (T k).map _ = _; rw [hx]; rfl
  · have := hpost.nx; omega
  · refine ⟨fun b hb => ?_, Nat.le_trans hps.nx hpost.nx, hps.fr.trans hpost.fr, hpost.rw⟩
    rw [hpost.ext b (by have := hps.nx; omega) (by omega)]
    exact hps.ext b hb
  · rintro j q blk (hj | rfl) hq hb hphj
    · obtain ⟨L, hL, hB, hnl, hge⟩ := h.early j q blk hj hq hb (by omega)
      have hnp : ¬ Here φ x.pre L.B := by
        intro hl
        rcases hlv _ hl with h1 | ⟨j', q', L', hS', hq', hph', hb', hL', hLB, _⟩
        · exact hnl h1
        · exact h.dist j' j q' q L' L hS' hj hq' hq hb' (by rw [hb]; simp) (by omega) (by omega) hL' hL (by intro e1; subst e1; rw [hq] at hq'; cases hq'; omega) hLB
      refine ⟨L, hpost.le _ _ hL, (hB.mono hpost.le).same (hpost.fr.keep _ hB.lt (fun hl => hnp hl.here)), fun hl => hnp (hpost.fr.here _ hl hB.lt), hge⟩
    · rw [hi] at hq; cases hq; rw [hblk] at hb; cases hb
  · rintro j j' q q' L L' (hj | rfl) (hj' | rfl) hq hq' hb hb' hph hph' hL hL' hne
    · have hji : j ≠ i := fun e1 => hS (e1 ▸ hj)
      have hji' : j' ≠ i := fun e1 => hS (e1 ▸ hj')
      rw [hsame j (hds.lt hq) hji] at hL
      rw [hsame j' (hds.lt hq') hji'] at hL'
      exact h.dist j j' q q' L L' hj hj' hq hq' hb hb' (by omega) (by omega) hL hL' hne
    · rw [hi] at hq'; cases hq'; exact absurd hblk hb'
    · rw [hi] at hq; cases hq; exact absurd hblk hb
    · exact absurd rfl hne
  · intro j hj hn
    rw [hsame j hj (fun e1 => hn (.inr e1))]
    exact h.late j hj (fun h1 => hn (.inl h1))
  · rw [Act.put_defers]; exact h.df
end
end Go.AE

/-
A symbolic executor: a region whose order is open: every order answers as the canonical run.
-/
namespace Go.AE

theorem filter_lt {α : Type} {p q : α → Bool} (hpq : ∀ x, q x = true → p x = true) {i : α} (hp : p i = true) (hq : q i = false) : ∀ {l : List α}, i ∈ l → (l.filter q).length < (l.filter p).length := by
  have hle : ∀ l : List α, (l.filter q).length ≤ (l.filter p).length := by
    intro l
    induction l with
    | nil => exact Nat.le_refl _
    | cons a l ih =>
      cases hqa : q a with
      | true => simp [hqa, hpq a hqa, ih]
      | false =>
        cases hpa : p a with
        | true => simp [hqa, hpa]; omega
        | false => simp [hqa, hpa, ih]
  intro l
  induction l with
  | nil => intro h; cases h
  | cons a l ih =>
    intro h
    rcases List.mem_cons.1 h with rfl | h
    · have := hle l
      simp [hp, hq]; omega
    · have := ih h
      cases hqa : q a with
      | true => simp [hqa, hpq a hqa, this]
      | false =>
        cases hpa : p a with
        | true => simp [hqa, hpa]; omega
        | false => simp [hqa, hpa, this]

/-- what is listed -/
def Lst (listed : Array Bool) : Nat → Prop := fun j => listed.getD j false = true
theorem lst_set {listed : Array Bool} {i : Nat} (hi : i < listed.size) : Lst (listed.setIfInBounds i true) = more1 (Lst listed) i := by
  funext j
  apply propext
  unfold Lst more1
  simp only [Array.getD_eq_getD_getElem?, Array.getElem?_setIfInBounds]
  by_cases hij : i = j
  · subst hij; simp [hi]
  · have : j ≠ i := fun e => hij e.symm
    simp [hij, this]
theorem lst_not {listed : Array Bool} {i : Nat} (h : listed.getD i true = false) : i < listed.size ∧ ¬ Lst listed i := by
  unfold Lst
  rcases Nat.lt_or_ge i listed.size with h' | h'
  · simp [h'] at h ⊢; exact h
  · simp [Array.getElem?_eq_none h'] at h

/-- the table of an operation, as far as it is listed -/
theorem RI.atOp {D : DC0} {e : Syms} {V : VT} {T : HT} {m k n : Nat} {φ0 φ : Ph} {w0 w : World} {df : List Deferred} {S : Nat → Prop} {C : Heap} {A : Act} (h : RI D e V T m φ0 w0 df S k φ C n A w) {i : Nat} (hS : ¬ S i) (hanc : ∀ j, Ahead D.r j i → S j) :
    AtOp D.r V i (lim V S) := by
  refine ⟨fun j hj => ?_, fun j hj => ?_⟩
  · obtain ⟨rc, hrc⟩ := h.inV j (hanc j hj)
    exact ⟨rc, hrc, by rw [lim_yes (hanc j hj)]; exact hrc⟩
  · refine lim_no (fun hSj => ?_)
    rcases hj with rfl | hj
    · exact hS hSj
    · exact hS (h.closed _ _ hSj hj)

section
variable {D : DC0} {e : Syms} {V : VT} {T : HT} {m : Nat} {φ0 : Ph} {w0 : World} {df : List Deferred} {d : Draw} {ops : Array Oper}

/-- one known operation is done -/
theorem step_known (hD : D.Ok) (hl : D.l = ops.toList) (hds : DS D V T m d) (hord : D.es.Pairwise (· < ·)) (hes : ∀ q j : Nat, D.es[q]? = some j → ∃ o anc, D.l[j]? = some o ∧ isAc (D.ca j o anc).op.k = true) (hcall : CallOk D.P D.call)
    {S : Nat → Prop} {k n : Nat} {φ : Ph} {C : Heap} {A : Act} {w : World} (h : RI D e V T m φ0 w0 df S k φ C n A w) {i : Nat} {rc : Rec} (hi : V i = some rc) (hS : ¬ S i) (hanc : ∀ j, Ahead D.r j i → S j)
    {K : Act → World → Prop} {Q : Exit → Act → World → Prop} (hlet : LetsA Q)
    (hK : ∀ k φ C n A w, RI D e V T m φ0 w0 df (more1 S i) k φ C n A w → K A w) : wpOp D.P ops Q i K A w := by
  obtain ⟨o, anc, ho, ha, hd, b, hg, hk1, hk2⟩ := hds.fact i rc hi
  have ho' : ops[i]? = some o := by rw [hl] at ho; simpa using ho
  obtain ⟨tlS, htlS⟩ := exists_tl hD.plan (lim V S) D.dp D.tm
  have hA := h.ar tlS htlS
  have hat := h.atOp hS hanc
  have hgl : ∀ g, g < D.cx.G → ∃ Z, φ g = some ⟨g, 0, Z⟩ := h.ps.rw.gl
  have hgs : wantG (cGuard D.cx D.l o.guard) [] tlS = some b := hg _ tlS hat htlS
  have hwant : Region.wanted o (yielded ops A.tmps) = b := guard_ok (cx := D.cx) hgl hA (by rw [← hl]; exact hgs)
  -- an effect's phase
  have hphase : ∀ x, T rc.ph = some x → x.ix = i → rc.ph = k := by
    intro x hx hix
    have h1 : ¬ rc.ph < k := fun hlt => hS (hix ▸ (h.eff _ x hx).2 hlt)
    apply Classical.byContradiction
    intro hne
    have hm := (hds.phs _ x hx).1
    obtain ⟨y, hy⟩ := hds.all k (by omega)
    have h2 := hds.chain k rc.ph y x (by omega) hy hx
    rw [hix] at h2
    have := (h.eff k y hy).1 (hanc _ h2)
    omega
  unfold wpOp
  rw [ho']
  simp only [hwant]
  cases b with
  | false =>
    rw [if_neg (by simp)]
    obtain ⟨h1, h2, h3, h4⟩ := hk2 rfl
    have hu : VR φ e rc.val undef := by rw [h1]; exact VR.undef'
    cases hact : rc.act with
    | false => exact hK _ _ _ _ _ _ (h.quiet hD hds hi hS ho hanc hact h2 hu)
    | true =>
      obtain ⟨x, n', hx, hix, hpp, hn', hnx⟩ := h4 hact
      have hph := hphase x hx hix
      rw [hph] at hx hn'
      rw [h.hn] at hn'; cases hn'
      have hpre := hds.pre k x hx
      rw [hix] at hpre
      obtain ⟨hps, _⟩ := h.at_pre hanc hpre
      have hpost := Post.refl hps.rw (D.base + i)
      have hpost' : Post D.P.globals.size φ e x.pre n w (D.base + i) φ x.post x.nx w := by rw [hpp, hnx]; exact hpost
      exact hK _ _ _ _ _ _ (h.effect hD hds hord hi hS ho hanc h2 hx hix hph hpost' hu)
  | true =>
    rw [if_pos rfl]
    left
    have hkk := hk1 rfl
    have hkind := cKind_ok (cx := D.cx) (P := D.P) (Nat.le_refl _) o
    unfold Oper.wp
    cases hc : cKind D.P D.cx o.op with
    | rd f mem =>
      rw [hc] at hkk hkind
      obtain ⟨h1, h2, h3⟩ := hkk
      have hph := h.ph_ge hds hi h1 hS
      obtain ⟨M, hM, hrun⟩ := h3 k (h.pop_le hds hord hes ha hanc) hph
      obtain ⟨u, hu, hr⟩ := hkind hA (h.rv hds hM) (hrun _ tlS hat htlS)
      rw [hu, Oper.upon_value]
      exact hK _ _ _ _ _ _ (h.quiet hD hds hi hS ho hanc h1 h2 hr)
    | al f =>
      rw [hc] at hkk hkind
      obtain ⟨h1, h6, blk, h2, h3⟩ := hkk
      have hid : φ (D.base + i) = none := h.late i (hds.lt hi) hS
      obtain ⟨u, w', L, hu, hf, hLB, hr, hB⟩ := hkind hA h.ps.rw.rv hid h6 (h3 _ tlS hat htlS)
      rw [hu, Oper.upon_value]
      exact hK _ _ _ _ _ _ (h.alloc hD hds hi hS ho hanc h1 h2 h6 hf hLB hr hB)
    | ac f =>
      rw [hc] at hkk hkind
      obtain ⟨h1, h2, x, n', hx, hix, hn', hrun⟩ := hkk
      have hph := hphase x hx hix
      have hx' := hx
      rw [hph] at hx hn'
      rw [h.hn] at hn'; cases hn'
      have hpre := hds.pre k x hx
      rw [hix] at hpre
      obtain ⟨hps, _⟩ := h.at_pre hanc hpre
      have hid : φ (D.base + i) = none := h.late i (hds.lt hi) hS
      have hlt := hds.lt hi
      have hnge := h.nge
      refine hkind hcall hA hps.rw hid (by omega) (hrun _ tlS hat htlS) _ Q ?_ ?_ hlet
      · rintro u w' ⟨av, φ', h', nx', he, hp, hr⟩
        cases he
        exact hK _ _ _ _ _ _ (h.effect hD hds hord hi hS ho hanc h2 hx hix hph hp hr)
      · rintro u w' ⟨av, φ', h', nx', he, _⟩
        cases he
    | df f l => rw [hc] at hkk; exact hkk.elim
    | rc => rw [hc] at hkk; exact hkk.elim
    | no => rw [hc] at hkk; exact hkk.elim

/-- the effect that panics -/
theorem step_pan (hD : D.Ok) (hl : D.l = ops.toList) {j0 : Nat} {o : Oper} {f : AC} {pre : Heap} {n0 : Nat} {v : AV} {hp : Heap} {nxp : Nat} (hend : PanEnd D V T m d j0 o f pre n0 v hp nxp) (hcall : CallOk D.P D.call)
    {S : Nat → Prop} {k n : Nat} {φ : Ph} {C : Heap} {A : Act} {w : World} (h : RI D e V T m φ0 w0 df S k φ C n A w) (hS : ¬ S j0) (hanc : ∀ j, Ahead D.r j j0 → S j)
    {K : Act → World → Prop} {Q : Exit → Act → World → Prop} (hlet : LetsA Q)
    (hQ : ∀ φ' u w', PS D.P.globals.size φ0 e D.h0 D.base w0 φ' hp nxp w' → VR φ' e v u → Q (.panic [{ v := u, recovered := false }]) A w') : wpOp D.P ops Q j0 K A w := by
  have ho' : ops[j0]? = some o := by have := hend.op; rw [hl] at this; simpa using this
  obtain ⟨tlS, htlS⟩ := exists_tl hD.plan (lim V S) D.dp D.tm
  have hA := h.ar tlS htlS
  have hat := h.atOp hS hanc
  have hgl : ∀ g, g < D.cx.G → ∃ Z, φ g = some ⟨g, 0, Z⟩ := h.ps.rw.gl
  have hgs : wantG (cGuard D.cx D.l o.guard) [] tlS = some true := hend.guard _ tlS hat htlS
  have hwant : Region.wanted o (yielded ops A.tmps) = true := guard_ok (cx := D.cx) hgl hA (by rw [← hl]; exact hgs)
  have hkm : k = m := by
    apply Classical.byContradiction
    intro hne
    have := h.kle
    obtain ⟨y, hy⟩ := hend.ds.all k (by omega)
    have := (h.eff k y hy).1 (hanc _ (hend.chain k y hy))
    omega
  unfold wpOp
  rw [ho']
  simp only [hwant]
  rw [if_pos trivial]
  left
  have hkind := cKind_ok (cx := D.cx) (P := D.P) (Nat.le_refl _) o
  rw [hend.kind] at hkind
  have hnx := hend.nxOk
  have hpreOk := hend.preOk
  rw [← hkm] at hnx hpreOk
  rw [h.hn] at hnx; cases hnx
  obtain ⟨hps, _⟩ := h.at_pre hanc hpreOk
  have hlt : j0 < D.l.length := (List.getElem?_eq_some_iff.1 hend.op).1
  have hid : φ (D.base + j0) = none := h.late j0 hlt hS
  have hnge := h.nge
  unfold Oper.wp
  refine hkind hcall hA hps.rw hid (by omega) (hend.run _ tlS hat htlS) _ Q ?_ ?_ hlet
  · rintro u w' ⟨av, φ', h', nx', he, _⟩
    cases he
  · rintro u w' ⟨av, φ', h', nx', he, hpp, hr⟩
    cases he
    refine hQ φ' u w' ⟨fun b hb => ?_, Nat.le_trans hps.nx hpp.nx, hps.fr.trans hpp.fr, hpp.rw⟩ hr
    rw [hpp.ext b (by have := hps.nx; omega) (by omega)]
    exact hps.ext b hb

theorem ready_nil (hD : D.Ok) (hl : D.l = ops.toList) {listed : Array Bool} (hsz : listed.size = ops.size) (hr : Region.ready .any ops listed = []) : ∀ j, j < ops.size → Lst listed j := by
  intro j
  induction j using Nat.strongRecOn with
  | _ j ih =>
    intro hj
    apply Classical.byContradiction
    intro hn
    have hmem : j ∈ Region.ready .any ops listed := by
      refine mem_ready.2 ⟨?_, ops[j], Array.getElem?_eq_getElem hj, fun ed he hb => ?_⟩
      · unfold Lst at hn
        have h1 : j < listed.size := by omega
        simp [h1] at hn ⊢
        exact hn
      · have hlt : ed.on < j := by
          have hlj : D.l[j]? = some ops[j] := by rw [hl]; simp [hj]
          obtain ⟨_, hall⟩ := ancs_ok (acc := []) rfl hD.anc
          obtain ⟨a, _, he2⟩ := hall j _ hlj
          -- the edge is among those that were gone through
          have : ∀ {i : Nat} {acc : List Nat} {l : List Edge} {s : Nat}, edgesBits i acc l = some s → ∀ x ∈ l, Region.binds .any x = true → x.on < i := by
            intro i acc l
            induction l with
            | nil => intro s _ x hx; cases hx
            | cons y l ihl =>
              intro s h x hx hbx
              obtain ⟨s0, h0, h1⟩ := ob_some (x := edgesBits i acc l) h
              rcases List.mem_cons.1 hx with rfl | hx
              · unfold edgeBits at h1
                rw [hbx] at h1
                exact natBlt (guardB_some h1).1
              · exact ihl h0 x hx hbx
          have h7 := this he2 ed (by simpa using he) hb
          simpa using h7
        exact ih ed.on hlt (by omega)
    rw [hr] at hmem
    cases hmem

/-- any order -/
theorem draw_any (hD : D.Ok) (hl : D.l = ops.toList) (hds : DS D V T m d) (hord : D.es.Pairwise (· < ·)) (hes : ∀ q j : Nat, D.es[q]? = some j → ∃ o anc, D.l[j]? = some o ∧ isAc (D.ca j o anc).op.k = true) (hcall : CallOk D.P D.call)
    {Q : Exit → Act → World → Prop} (hlet : LetsA Q)
    (hfin : ∀ S k φ C n A w, (∀ j, j < ops.size → S j) → RI D e V T m φ0 w0 df S k φ C n A w → Q .normal A w)
    (hnew : ∀ S k φ C n A w i (K : Act → World → Prop), RI D e V T m φ0 w0 df S k φ C n A w → i < ops.size → V i = none → ¬ S i → (∀ j, Ahead D.r j i → S j) → wpOp D.P ops Q i K A w) :
    ∀ (fuel : Nat) (listed : Array Bool) (k : Nat) (φ : Ph) (C : Heap) (n : Nat) (A : Act) (w : World), listed.size = ops.size → ((List.range ops.size).filter fun j => !listed.getD j true).length ≤ fuel →
      RI D e V T m φ0 w0 df (Lst listed) k φ C n A w → wpAny D.P .any ops Q fuel listed A w := by
  intro fuel
  induction fuel with
  | zero =>
    intro listed k φ C n A w hsz hlen h
    have hnil : ((List.range ops.size).filter fun j => !listed.getD j true) = [] := List.length_eq_zero_iff.1 (by omega)
    have hr : Region.ready .any ops listed = [] := by
      cases hq : Region.ready .any ops listed with
      | nil => rfl
      | cons x xs =>
        exfalso
        have hx : x ∈ Region.ready .any ops listed := by rw [hq]; simp
        obtain ⟨h0, o, ho, _⟩ := mem_ready.1 hx
        have : x ∈ ((List.range ops.size).filter fun j => !listed.getD j true) := by
          refine List.mem_filter.2 ⟨List.mem_range.2 (Array.getElem?_eq_some_iff.1 ho).1, ?_⟩
          rw [h0]; rfl
        rw [hnil] at this
        cases this
    exact ⟨hr, hfin _ _ _ _ _ _ _ (ready_nil hD hl hsz hr) h⟩
  | succ fuel ih =>
    intro listed k φ C n A w hsz hlen h
    refine ⟨fun hr => hfin _ _ _ _ _ _ _ (ready_nil hD hl hsz hr) h, fun i hi => ?_⟩
    obtain ⟨h0, o, ho, hall⟩ := mem_ready.1 hi
    obtain ⟨hil, hS⟩ := lst_not h0
    have hlo : D.l[i]? = some o := by rw [hl]; simpa using ho
    have hanc : ∀ j, Ahead D.r j i → Lst listed j := by
      intro j hj
      obtain ⟨ed, he, hb, _, h4⟩ := (ahead_iff hD.anc hlo j).1 hj
      have h5 : Lst listed ed.on := hall ed (by simpa using he) hb
      rcases h4 with rfl | h4
      · exact h5
      · exact h.closed _ _ h5 h4
    cases hv : V i with
    | none => exact hnew _ _ _ _ _ _ _ i _ h (by omega) hv hS hanc
    | some rc =>
      refine step_known hD hl hds hord hes hcall h hv hS hanc hlet (fun k' φ' C' n' A' w' h' => ?_)
      refine ih _ k' φ' C' n' A' w' (by simp [hsz]) ?_ (by rw [lst_set hil]; exact h')
      have : ((List.range ops.size).filter fun j => !(listed.setIfInBounds i true).getD j true).length < ((List.range ops.size).filter fun j => !listed.getD j true).length := by
        refine filter_lt (i := i) (fun x hx => ?_) (by rw [h0]; rfl) ?_ (List.mem_range.2 (by omega))
        · by_cases hix : i = x
          · subst hix; simp [hil] at hx
          · rw [getD_set_ne true hix] at hx; exact hx
        · simp [hil]
      omega
end
end Go.AE

/-
A symbolic executor: regions whose order is open.
-/
namespace Go.AE

theorem cDraw_get {P : Program} {N dp L : Nat} {all : List Oper} : ∀ {l : List Oper} {j : Nat} {p : CP × Bool}, (cDraw P N dp L all l)[j]? = some p ↔ ∃ o, l[j]? = some o ∧ p = (cOp P N ⟨dp, 0, [], P.globals.size⟩ all o, isGl L o.dst) := by
  intro l
  induction l with
  | nil => intro j p; show ([] : List (CP × Bool))[j]? = some p ↔ _; simp
  | cons o l ih =>
    intro j p
    show ((cOp P N ⟨dp, 0, [], P.globals.size⟩ all o, isGl L o.dst) :: cDraw P N dp L all l)[j]? = some p ↔ _
    cases j with
    | zero => simp [eq_comm]
    | succ j => rw [List.getElem?_cons_succ, ih]; simp

theorem zipA_order : ∀ {l : List (CP × Bool)} {k : Nat} {a : List Nat}, ((zipA l k a).map fun c => c.i).Pairwise (· < ·) ∧ ∀ c ∈ zipA l k a, k ≤ c.i := by
  intro l
  induction l with
  | nil => intro k a; exact ⟨List.Pairwise.nil, fun c hc => by cases hc⟩
  | cons p l ih =>
    intro k a
    cases a with
    | nil => exact ⟨List.Pairwise.nil, fun c hc => by cases hc⟩
    | cons x a =>
      obtain ⟨h1, h2⟩ := ih (k := k + 1) (a := a)
      refine ⟨?_, fun c hc => ?_⟩
      · show ((⟨k, x, p.1, p.2⟩ : CA) :: zipA l (k + 1) a |>.map fun c => c.i).Pairwise (· < ·)
        rw [List.map_cons, List.pairwise_cons]
        refine ⟨fun i hi => ?_, h1⟩
        obtain ⟨c, hc, rfl⟩ := List.mem_map.1 hi
        have := h2 c hc
        show k < c.i
        omega
      · change c ∈ (⟨k, x, p.1, p.2⟩ : CA) :: zipA l (k + 1) a at hc
        rcases List.mem_cons.1 hc with rfl | hc
        · exact Nat.le_refl _
        · have := h2 c hc; omega

theorem draw_ok {P : Program} (hm : P.follows .mixedOrders = true) : DrawOk P := by
  intro N dp L id ops n call φ e h nx w tm df A out hcall hT hD hR hrun Q hQ hlet
  refine wp_region_any hm ?_
  change (ccDraw (planOf ops.toList (cDraw P N dp L ops.toList ops.toList))).run n call tm df h nx = some out at hrun
  cases hplan : planOf ops.toList (cDraw P N dp L ops.toList ops.toList) with
  | none => rw [hplan] at hrun; cases hrun
  | some p =>
    rw [hplan] at hrun
    obtain ⟨r, hr, hp1⟩ := ob_some (x := ancs ops.toList 0 []) hplan
    obtain ⟨hok, hp2⟩ := guardB_some hp1
    cases hp2
    have hpl := planOk_of hr hok
    -- the plan's data
    let q : List CA := zipA (cDraw P N dp L ops.toList ops.toList) 0 r
    let acts : List CA := filt (fun c => isAc c.op.k) q
    let D : DC0 := ⟨P, N, dp, L, ops.toList, r, mapL (fun c => c.i) acts, call, tm, nx, h, nx + llen q⟩
    have hDok : D.Ok := ⟨hr, hpl, hT.dep⟩
    have hq : ∀ j c, q[j]? = some c ↔ ∃ o anc, ops.toList[j]? = some o ∧ r[j]? = some anc ∧ c = D.ca j o anc := by
      intro j c
      show (zipA _ 0 r)[j]? = some c ↔ _
      rw [zipA_get]
      constructor
      · rintro ⟨p, x, h1, h2, rfl⟩
        obtain ⟨o, h3, rfl⟩ := cDraw_get.1 h1
        exact ⟨o, x, h3, h2, by rw [Nat.zero_add]; rfl⟩
      · rintro ⟨o, x, h1, h2, rfl⟩
        exact ⟨_, x, cDraw_get.2 ⟨o, h1, rfl⟩, h2, by rw [Nat.zero_add]; rfl⟩
    have hofs : Ofs D q := by
      intro c hc
      obtain ⟨j, hj⟩ := List.getElem?_of_mem hc
      obtain ⟨o, anc, h1, h2, rfl⟩ := (hq j c).1 hj
      exact ⟨o, h1, h2, rfl⟩
    have hqall : ∀ j o anc, D.l[j]? = some o → D.r[j]? = some anc → D.ca j o anc ∈ q := fun j o anc h1 h2 => List.mem_of_getElem? ((hq j _).2 ⟨o, anc, h1, h2, rfl⟩)
    have hlenq : q.length = ops.toList.length := by
      apply Nat.le_antisymm
      · apply Nat.le_of_not_lt
        intro hlt
        obtain ⟨o, _, h1, _⟩ := (hq ops.toList.length _).1 (List.getElem?_eq_getElem hlt)
        have := (List.getElem?_eq_some_iff.1 h1).1
        omega
      · apply Nat.le_of_not_lt
        intro hlt
        have h1 : r.length = ops.toList.length := hpl.len
        have h2 := (hq q.length (D.ca q.length (ops.toList[q.length]) (r[q.length]'(by omega)))).2 ⟨_, _, List.getElem?_eq_getElem hlt, List.getElem?_eq_getElem (by omega), rfl⟩
        have := (List.getElem?_eq_some_iff.1 h2).1
        omega
    have hacts : acts = q.filter fun c => isAc c.op.k := filt_eq _ _
    have hes : D.es = acts.map fun c => c.i := mapL_eq _ _
    have hord : D.es.Pairwise (· < ·) := by
      rw [hes, hacts]
      have h1 := (zipA_order (l := cDraw P N dp L ops.toList ops.toList) (k := 0) (a := r)).1
      exact h1.sublist (List.filter_sublist.map _)
    have hesac : ∀ x j : Nat, D.es[x]? = some j → ∃ o anc, D.l[j]? = some o ∧ isAc (D.ca j o anc).op.k = true := by
      intro x j hx
      rw [hes] at hx
      have hmem := List.mem_of_getElem? hx
      obtain ⟨c, hc, rfl⟩ := List.mem_map.1 hmem
      rw [hacts] at hc
      obtain ⟨hc1, hc2⟩ := List.mem_filter.1 hc
      obtain ⟨o, h1, _, h3⟩ := hofs c hc1
      exact ⟨o, c.anc, h1, by rw [← h3]; exact hc2⟩
    have hlim0 : ∀ t v, ¬ Wrote ops.toList (fun _ => none) t v := by rintro t v ⟨j, o, rc, _, _, h1, _⟩; cases h1
    -- the canonical run's beginning
    have hds0 : DS D (fun _ => none) (fun _ => none) 0 ⟨tm, tm, h, nx + llen q, [], 0⟩ := by
      refine ⟨⟨fun t v _ hw => (hlim0 t v hw).elim, fun _ _ _ => rfl⟩, fun t ht => ?_, ⟨h, rfl, rfl, fun b blk _ hb => .inl hb⟩, rfl, rfl, (fun i hi => by omega), fun j => ?_, (fun j rc hj => by cases hj), (fun j rc hj => by cases hj),
        fun j rc i hj => (by cases hj), fun p x hx => (by cases hx), (fun p hp => by omega), fun p q x y _ hx => (by cases hx), fun p x hx => (by cases hx), fun j rc x hj => (by cases hj)⟩
      · show tget dp t tm = if hasBit L t then tget dp t tm else tget dp t tm
        split <;> rfl
      · show hasBit 0 j = true ↔ _
        rw [hasBit_zero]; simp
    -- the real run's beginning
    have hbegin : ∀ (V : VT) (T : HT) (m : Nat) (d : Draw), DS D V T m d → RI D e V T m φ { w with drawn := w.drawn + 1 } A.defers (Lst (Array.replicate ops.size false)) 0 φ h (nx + llen q) A { w with drawn := w.drawn + 1 } := by
      intro V T m d hds
      have hno : ∀ j, ¬ Lst (Array.replicate ops.size false) j := by
        intro j hj
        unfold Lst at hj
        simp only [Array.getD_eq_getD_getElem?, Array.getElem?_replicate] at hj
        split at hj <;> simp at hj
      have hR' : RW P.globals.size φ e h nx { w with drawn := w.drawn + 1 } := ⟨hR.live, hR.sep, hR.dom, hR.gl, hR.exo, hR.exb⟩
      have hll : llen q = ops.toList.length := by rw [llen_eq]; exact hlenq
      refine ⟨fun j hj => (hno j hj).elim, fun j _ hj => (hno j hj).elim, fun p x _ => ⟨fun hj => (hno _ hj).elim, fun hp => by omega⟩, Nat.zero_le _, rfl, rfl, ?_, ?_, ?_, fun j _ _ hj => (hno j hj).elim, fun j _ _ _ _ _ hj => (hno j hj).elim, ?_, rfl, hR.exb⟩
      · show nx + ops.toList.length ≤ nx + llen q; omega
      · exact ⟨Ext.refl _ _, Nat.le_add_right _ _, Frame.refl _ _ _, ⟨hR'.live, hR'.sep, fun b K hK => by have := hR'.dom b K hK; exact ⟨by omega, this.2⟩, hR'.gl, hR'.exo, hR'.exb⟩⟩
      · intro tlS htlS
        have hw0 : ∀ t v, ¬ Wrote ops.toList (lim V (Lst (Array.replicate ops.size false))) t v := by
          rintro t v ⟨j, o, rc, _, _, h1, _⟩
          rw [lim_no (hno j)] at h1; cases h1
        refine ⟨hT.size, hT.dep, fun t v ht hv => hT.val t v ht ?_, fun t ht hb => ?_, fun t j v hj _ => by cases hj⟩
        · rw [← htlS.no t ht (hw0 t)]; exact hv
        · change hasBit 0 t = true at hb
          rw [hasBit_zero] at hb; cases hb
      · intro j hj _
        cases hq2 : φ (nx + j) with
        | none => rfl
        | some K => have := (hR.dom _ K hq2).1; omega
    have hlen0 : ((List.range ops.size).filter fun j => !(Array.replicate ops.size false).getD j true).length ≤ ops.size := by
      refine Nat.le_trans (List.length_filter_le _ _) ?_
      simp
    have hframe : ∀ {φ' : Ph} {h' : Heap} {nx' : Nat} {w' : World}, PS P.globals.size φ e h nx { w with drawn := w.drawn + 1 } φ' h' nx' w' → PS P.globals.size φ e h nx w φ' h' nx' w' := by
      intro φ' h' nx' w' hps
      exact ⟨hps.ext, hps.nx, ⟨hps.fr.size, hps.fr.keep, hps.fr.new, hps.fr.os, hps.fr.tape, hps.fr.output, hps.fr.lo, hps.fr.here⟩, hps.rw⟩
    -- the run
    obtain ⟨res, hres, hend⟩ := ob_some (x := effects D.es nx q call acts 0 ⟨tm, tm, h, Nat.add nx (llen q), [], 0⟩) hrun
    have heff := effects_ok hDok hord hofs hqall (rest := acts) (k := 0) (V := fun _ => none) (T := fun _ => none) (prev := 0) (fun c hc => hofs c (by rw [hacts] at hc; exact (List.mem_filter.1 hc).1))
      (fun c hc => by rw [hacts] at hc; exact (List.mem_filter.1 hc).2) (by rfl) (fun p x hx => by cases hx) hds0 (fun j rc hj => by cases hj) hres
    cases res with
    | ok d1 =>
      obtain ⟨V1, T, m, hds1, hmall⟩ := heff
      obtain ⟨d2, hd2, hout⟩ := ob_some (x := quietAll D.es nx (fun _ => true) q d1) hend
      cases hout
      obtain ⟨V, hds, hadd, hall⟩ := quietAll_ok hDok hofs hds1 hd2
      have hallV : ∀ j o, D.l[j]? = some o → ∃ rc, V j = some rc := by
        intro j o ho
        have hjr : j < r.length := by rw [hpl.len]; exact (List.getElem?_eq_some_iff.1 ho).1
        exact hall _ (hqall j o _ ho (List.getElem?_eq_getElem hjr)) rfl
      refine draw_any (D := D) hDok rfl hds hord hesac hcall hlet ?_ ?_ _ _ 0 φ h (nx + llen q) A _ (by simp) hlen0 (hbegin V T m d2 hds)
      · intro S k φ' C n' A' w' hS hri
        have hkm : k = m := by
          apply Classical.byContradiction
          intro hne
          have := hri.kle
          obtain ⟨y, hy⟩ := hds.all k (by omega)
          obtain ⟨_, _, rc, hrc, _⟩ := hds.phs k y hy
          have hlt := hds.lt hrc
          have := (hri.eff k y hy).1 (hS _ (by simpa [D] using hlt))
          omega
        subst hkm
        have hn' := hri.hn
        rw [hds.nx] at hn'; cases hn'
        obtain ⟨C', hC', hlo, hallC⟩ := hds.heap
        have hC := hri.hC
        rw [hC'] at hC; cases hC
        have hSl : ∀ j rc, V j = some rc → S j := fun j rc hj => hS j (by have := hds.lt hj; simpa [D] using this)
        obtain ⟨hps, _⟩ := hri.at_pre (X := S) (pre := d2.h) (fun j hj => hj) ⟨_, hri.hC, hlo, fun b blk hb6 hb => by
          rcases hallC b blk hb6 hb with h1 | ⟨j, rc, h1, h2, h3, h4⟩
          · exact .inl h1
          · exact .inr ⟨j, rc, h1, h2, h3, h4, hSl j rc h1⟩⟩
        refine hQ _ _ _ ⟨.normal, d2.tm, df, d2.h, d2.nx, φ', rfl, hframe hps, .normal, ?_, ?_⟩
        · obtain ⟨tlS, htlS⟩ := exists_tl hpl (lim V S) dp tm
          have hA := hri.ar tlS htlS
          have hVS : lim V S = V := by
            funext j
            by_cases hj : S j
            · exact lim_yes hj
            · rw [lim_no hj]
              cases hv : V j with
              | none => rfl
              | some rc => exact absurd (hSl j rc hv) hj
          rw [hVS] at htlS
          have hsame : ∀ t, t < 2 ^ dp → tget dp t d2.tl = tget dp t tlS := by
            intro t ht
            by_cases hw : ∃ v, Wrote ops.toList V t v
            · obtain ⟨v, hw⟩ := hw
              rw [htlS.yes t v ht hw]; exact hds.tl.yes t v ht hw
            · rw [htlS.no t ht (fun v h1 => hw ⟨v, h1⟩)]; exact hds.tl.no t ht (fun v h1 => hw ⟨v, h1⟩)
          refine ⟨hA.size, hA.dep, fun t v ht hv => ?_, fun t ht hb => ?_, fun t j v hj _ => by cases hj⟩
          · change tget dp t d2.tm = some v at hv
            have h1 := hds.tm t ht
            change tget dp t d2.tm = if hasBit L t then tget dp t tm else tget dp t d2.tl at h1
            rw [h1] at hv
            cases hb : hasBit L t with
            | true =>
              rw [hb] at hv
              have := hT.off t ht hb
              change tget dp t tm = none at this
              rw [if_pos rfl, this] at hv; cases hv
            | false =>
              rw [hb, if_neg (by simp), hsame t ht] at hv
              exact hA.val t v ht hv
          · change hasBit L t = true at hb
            have h1 := hds.tm t ht
            change tget dp t d2.tm = if hasBit L t then tget dp t tm else tget dp t d2.tl at h1
            rw [hb, if_pos rfl] at h1
            exact h1.trans (hT.off t ht hb)
        · rw [hri.df]
          exact hD.mono (hR.le_of_ext hps.ext)
      · intro S k φ' C n' A' w' i K hri hi hv
        obtain ⟨rc, hrc⟩ := hallV i ops[i] (by simp [D, hi])
        rw [hv] at hrc; cases hrc
    | pan v hp nxp =>
      obtain ⟨V, T, m, d2, j0, o, f, pre, n0, hpe⟩ := heff
      cases hend
      refine draw_any (D := D) hDok rfl hpe.ds hord hesac hcall hlet ?_ ?_ _ _ 0 φ h (nx + llen q) A _ (by simp) hlen0 (hbegin V T m d2 hpe.ds)
      · intro S k φ' C n' A' w' hS hri
        exfalso
        have hlt : j0 < D.l.length := (List.getElem?_eq_some_iff.1 hpe.op).1
        obtain ⟨rc, hrc⟩ := hri.inV j0 (hS j0 (by simpa [D] using hlt))
        rw [hpe.none] at hrc; cases hrc
      · intro S k φ' C n' A' w' i K hri hi hv hnS hanc
        have hij : i = j0 := by
          apply Classical.byContradiction
          intro hne
          obtain ⟨rc, hrc⟩ := hpe.all i ops[i] (by simp [D, hi]) hne (fun ha => by
            obtain ⟨rc, hrc⟩ := hri.inV j0 (hanc j0 ha)
            rw [hpe.none] at hrc; cases hrc)
          rw [hv] at hrc; cases hrc
        subst hij
        refine step_pan hDok rfl hpe hcall hri hnS hanc hlet (fun φ2 u w2 hps hu => ?_)
        refine hQ _ _ _ ⟨.pan v, .tr .nil, df, hp, nxp, φ2, rfl, hframe hps, .pan v u hu, ?_, ?_⟩
        · obtain ⟨tlS, htlS⟩ := exists_tl hpl (lim V S) dp tm
          have hA := hri.ar tlS htlS
          exact ⟨hA.size, hA.dep, fun t v _ hv => (by rw [tget_nil] at hv; cases hv), fun t _ _ => tget_nil _ _, fun t j v hj _ => by cases hj⟩
        · rw [hri.df]
          exact hD.mono (hR.le_of_ext hps.ext)
end Go.AE
