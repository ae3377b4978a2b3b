/-
Texts of the proof, joined: AERel, AERead, AEEq, AERd, AERd2, AERd3, AERd4.
-/
import Derived.Test.YtaajedkbaahgfaaGreatDoorA1
import Derived.Laws.Entries
import Derived.Laws.Cells
import Derived.Laws.Sem
import Derived.Laws.StructEq
import Derived.Laws.Slices
import Derived.Laws.BytesArg
import Derived.Laws.Tables
import Derived.MapKept
set_option linter.unusedSimpArgs false
set_option linter.unusedVariables false
set_option linter.unusedSectionVars false
/-
A symbolic executor: what its values and its memory stand for.
-/
namespace Go.AE

/-- where an abstract block lies: the block, the cell where it begins, how many cells the block has -/
structure Loc where
  B : Nat
  O : Nat
  S : Nat

abbrev Ph := Nat → Option Loc
/-- what stands for the values that nobody looks into -/
abbrev Syms := Nat → Value

theorem oneCell_cells {v : Value} (h : v.oneCell' = true) : v.cells = #[v] := by cases v <;> first | rfl | cases h

mutual
inductive VR (φ : Ph) (e : Syms) : AV → Value → Prop where
  | bool (b : Bool) : VR φ e (.bool b) (.bool b)
  | int (k : IntKind) (n : Int) : VR φ e (.int k n) (.int k n)
  | str (n x : Nat) (s : ByteArray) (h : s.data.toList = unpack n x) : VR φ e (.str n x) (.string s)
  | ptr (b o : Nat) (L : Loc) (h : φ b = some L) : VR φ e (.ptr b o) (.pointer (some ⟨L.B, L.O + o, none⟩))
  | nilptr : VR φ e .nilptr (.pointer none)
  | slice (b o len cap sz : Nat) (L : Loc) (h : φ b = some L) (hl : len ≤ cap) (hs : L.O + o + cap * sz ≤ L.S) :
      VR φ e (.slice b o len (some cap) sz) (.slice (some ⟨L.B, L.O + o, none⟩) len cap)
  | sliceU (b o len cap sz : Nat) (L : Loc) (h : φ b = some L) (hl : len ≤ cap) (hs : L.O + o + cap * sz ≤ L.S) :
      VR φ e (.slice b o len none sz) (.slice (some ⟨L.B, L.O + o, none⟩) len cap)
  | sliceE (b o sz : Nat) (a : Addr) (hb : HOk b) : VR φ e (.slice b o 0 none sz) (.slice (some a) 0 0)
  | nilslice : VR φ e .nilslice (.slice none 0 0)
  | map (r : Nat) (L : Loc) (h : φ r = some L) : VR φ e (.map r) (.map (some L.B))
  | nilmap : VR φ e .nilmap (.map none)
  | func (f : FuncId) (a c : List AV) (A C : List Value) (ha : VRL φ e a A) (hc : VRL φ e c C) : VR φ e (.func f a c) (.func (.func f) A.toArray C.toArray)
  | nilFunc : VR φ e .nilFunc .nilFunc
  | iface (t : TypeId) (v : AV) (u : Value) (h : VR φ e v u) : VR φ e (.iface t v) (.iface t u)
  | nilIface : VR φ e .nilIface .nilIface
  | agg (cs : List AV) (us : List Value) (h : VRL φ e cs us) : VR φ e (.agg cs) (.agg us.toArray)
  | tuple (vs : List AV) (us : List Value) (h : VRL φ e vs us) : VR φ e (.tuple vs) (.tuple us.toArray)
  | sym (i : Nat) (h : (e i).oneCell' = true) : VR φ e (.sym i) (e i)
inductive VRL (φ : Ph) (e : Syms) : List AV → List Value → Prop where
  | nil : VRL φ e [] []
  | cons (a : AV) (l : List AV) (v : Value) (r : List Value) (h : VR φ e a v) (t : VRL φ e l r) : VRL φ e (a :: l) (v :: r)
end

abbrev Phi.le (φ φ' : Ph) : Prop := ∀ b L, φ b = some L → φ' b = some L

mutual
theorem VR.mono {φ φ' : Ph} {e : Syms} (hle : Phi.le φ φ') : ∀ {a : AV} {v : Value}, VR φ e a v → VR φ' e a v
  | _, _, .bool b => .bool b
  | _, _, .int k n => .int k n
  | _, _, .str n x s h => .str n x s h
  | _, _, .ptr b o L h => .ptr b o L (hle _ _ h)
  | _, _, .nilptr => .nilptr
  | _, _, .slice b o len cap sz L h hl hs => .slice b o len cap sz L (hle _ _ h) hl hs
  | _, _, .sliceU b o len cap sz L h hl hs => .sliceU b o len cap sz L (hle _ _ h) hl hs
  | _, _, .sliceE b o sz a hb => .sliceE b o sz a hb
  | _, _, .nilslice => .nilslice
  | _, _, .map r L h => .map r L (hle _ _ h)
  | _, _, .nilmap => .nilmap
  | _, _, .func f a c A C ha hc => .func f a c A C (VRL.mono hle ha) (VRL.mono hle hc)
  | _, _, .nilFunc => .nilFunc
  | _, _, .iface t v u h => .iface t v u (VR.mono hle h)
  | _, _, .nilIface => .nilIface
  | _, _, .agg cs us h => .agg cs us (VRL.mono hle h)
  | _, _, .tuple vs us h => .tuple vs us (VRL.mono hle h)
  | _, _, .sym i h => .sym i h
theorem VRL.mono {φ φ' : Ph} {e : Syms} (hle : Phi.le φ φ') : ∀ {l : List AV} {r : List Value}, VRL φ e l r → VRL φ' e l r
  | _, _, .nil => .nil
  | _, _, .cons a l v r h t => .cons a l v r (VR.mono hle h) (VRL.mono hle t)
end

section
variable {φ : Ph} {e : Syms}
theorem VRL.length : ∀ {l : List AV} {r : List Value}, VRL φ e l r → l.length = r.length
  | _, _, .nil => rfl
  | _, _, .cons a l v r h t => by simp [t.length]
theorem VRL.get : ∀ {l : List AV} {r : List Value}, VRL φ e l r → ∀ {i : Nat} {a : AV}, l[i]? = some a → ∃ v, r[i]? = some v ∧ VR φ e a v
  | _, _, .nil, i, a, h => by simp at h
  | _, _, .cons a l v r hv t, i, b, h => by
    cases i with
    | zero => simp at h; subst h; exact ⟨v, rfl, hv⟩
    | succ i => simp at h; obtain ⟨u, hu, hr⟩ := t.get h; exact ⟨u, by simpa using hu, hr⟩
theorem VRL.of_get {l : List AV} : ∀ {r : List Value}, l.length = r.length → (∀ (i : Nat) (a : AV), l[i]? = some a → ∃ v : Value, r[i]? = some v ∧ VR φ e a v) → VRL φ e l r := by
  induction l with
  | nil => intro r h _; cases r with
    | nil => exact .nil
    | cons v r => simp at h
  | cons a l ih =>
    intro r h hg
    cases r with
    | nil => simp at h
    | cons v r =>
      obtain ⟨u, hu, hr⟩ := hg 0 a rfl
      simp at hu; subst hu
      exact .cons _ _ _ _ hr (ih (by simpa using h) fun i b hb => by simpa using hg (i + 1) b (by simpa using hb))
theorem VRL.append : ∀ {l l' : List AV} {r r' : List Value}, VRL φ e l r → VRL φ e l' r' → VRL φ e (l ++ l') (r ++ r')
  | _, _, _, _, .nil, h => h
  | _, _, _, _, .cons a l v r h t, h' => .cons _ _ _ _ h (t.append h')
theorem VRL.take : ∀ (n : Nat) {l : List AV} {r : List Value}, VRL φ e l r → VRL φ e (l.take n) (r.take n)
  | 0, _, _, _ => by simp; exact .nil
  | _ + 1, _, _, .nil => .nil
  | n + 1, _, _, .cons _ _ _ _ h t => .cons _ _ _ _ h (t.take n)
theorem VRL.drop : ∀ (n : Nat) {l : List AV} {r : List Value}, VRL φ e l r → VRL φ e (l.drop n) (r.drop n)
  | 0, _, _, h => h
  | _ + 1, _, _, .nil => .nil
  | n + 1, _, _, .cons _ _ _ _ _ t => t.drop n
theorem VRL.one {a : AV} {v : Value} (h : VR φ e a v) : VRL φ e [a] [v] := .cons _ _ _ _ h .nil
theorem VRL.two {a b : AV} {v u : Value} (h : VR φ e a v) (k : VR φ e b u) : VRL φ e [a, b] [v, u] := .cons _ _ _ _ h (.one k)

/-- the cells of a value -/
theorem VR.cells {a : AV} {v : Value} (h : VR φ e a v) : VRL φ e (cellsA a) v.cells.toList := by
  cases h with
  | agg cs us h => simpa [cellsA, Value.cells] using h
  | bool b => exact .one (.bool b)
  | int k n => exact .one (.int k n)
  | str n x s h => exact .one (.str n x s h)
  | ptr b o L h => exact .one (.ptr b o L h)
  | nilptr => exact .one .nilptr
  | slice b o len cap sz L h hl hs => exact .one (.slice b o len cap sz L h hl hs)
  | sliceU b o len cap sz L h hl hs => exact .one (.sliceU b o len cap sz L h hl hs)
  | sliceE b o sz a hb => exact .one (.sliceE b o sz a hb)
  | nilslice => exact .one .nilslice
  | map r L h => exact .one (.map r L h)
  | nilmap => exact .one .nilmap
  | func f a c A C ha hc => exact .one (.func f a c A C ha hc)
  | nilFunc => exact .one .nilFunc
  | iface t v u h => exact .one (.iface t v u h)
  | nilIface => exact .one .nilIface
  | tuple vs us h => exact .one (.tuple vs us h)
  | sym i h => rw [oneCell_cells h]; exact .one (.sym i h)
end

/-! ## Constants -/
theorem ofValue_ok {φ : Ph} {e : Syms} (fuel : Nat) : ∀ {v : Value} {a : AV}, ofValue fuel v = some a → VR φ e a v := by
  induction fuel with
  | zero => intro v a h; cases h
  | succ n ih =>
    have hl : ∀ {l : List Value} {r : List AV}, mapO (ofValue n) l = some r → VRL φ e r l := by
      intro l
      induction l with
      | nil => intro r h; cases h; exact .nil
      | cons v l ihl =>
        intro r h
        obtain ⟨b, q, hb, hq, rfl⟩ := mapO_cons h
        exact .cons _ _ _ _ (ih hb) (ihl hq)
    intro v a h
    cases v with
    | bool b => cases h; exact .bool b
    | int k m => cases h; exact .int k m
    | float k b => cases h
    | complex k x y => cases h
    | string s =>
      cases h
      refine .str _ _ _ ?_
      rw [llen_eq, pack_unpack]
    | pointer p =>
      cases p with
      | none => cases h; exact .nilptr
      | some p => cases h
    | slice p l c =>
      cases p with
      | some p => cases h
      | none =>
        cases l with
        | succ l => cases h
        | zero => cases c with
          | succ c => cases h
          | zero => cases h; exact .nilslice
    | map r => cases r with
      | none => cases h; exact .nilmap
      | some r => cases h
    | chan r => cases h
    | func f x y => cases h
    | nilFunc => cases h; exact .nilFunc
    | iface t v =>
      obtain ⟨b, hb, h⟩ := ob_some (x := ofValue n v) h
      cases h
      exact .iface _ _ _ (ih hb)
    | nilIface => cases h; exact .nilIface
    | agg cs =>
      obtain ⟨b, hb, h⟩ := ob_some (x := mapO (ofValue n) cs.toList) h
      cases h
      exact .agg b cs.toList (hl hb)
    | tuple cs =>
      obtain ⟨b, hb, h⟩ := ob_some (x := mapO (ofValue n) cs.toList) h
      cases h
      exact .tuple b cs.toList (hl hb)

/-! ## Memory -/
inductive EntR (φ : Ph) (e : Syms) : List Ent → List MapEntry → Prop where
  | nil : EntR φ e [] []
  | cons (x : Ent) (l : List Ent) (y : MapEntry) (r : List MapEntry) (hk : VR φ e x.key y.key) (hv : VR φ e x.val y.val) (hb : x.born = y.born) (t : EntR φ e l r) :
      EntR φ e (x :: l) (y :: r)

theorem EntR.mono {φ φ' : Ph} {e : Syms} (hle : Phi.le φ φ') : ∀ {l : List Ent} {r : List MapEntry}, EntR φ e l r → EntR φ' e l r
  | _, _, .nil => .nil
  | _, _, .cons x l y r hk hv hb t => .cons x l y r (hk.mono hle) (hv.mono hle) hb (t.mono hle)

/-- blocks that may hold frozen cells: none of them is written -/
def exB (e : Syms) (B : Nat) : Prop := e (2 * B + 1) = .bool true
def BR (φ : Ph) (e : Syms) (w : World) (L : Loc) (b : Blk) : Prop := match b with
  | .cells cs => ∃ c t lo hi, w.heap[L.B]? = some (.cells c t (lo, hi)) ∧ c.size = L.S ∧ L.O + cs.length ≤ L.S ∧ (¬ exB e L.B → ∀ i, i < L.S → ¬ (lo ≤ i ∧ i < hi)) ∧
      ∀ i v, cs[i]? = some v → ∃ u, c[L.O + i]? = some u ∧ VR φ e v u
  | .map es clock => ∃ es', w.heap[L.B]? = some (.map es' clock) ∧ EntR φ e es es'.toList

theorem BR.mono {φ φ' : Ph} {e : Syms} (hle : Phi.le φ φ') {w : World} {L : Loc} {b : Blk} (h : BR φ e w L b) : BR φ' e w L b := by
  cases b with
  | cells cs =>
    obtain ⟨c, t, lo, hi, h1, h2, h3, h4, h5⟩ := h
    exact ⟨c, t, lo, hi, h1, h2, h3, h4, fun i v hv => let ⟨u, hu, hr⟩ := h5 i v hv; ⟨u, hu, hr.mono hle⟩⟩
  | map es clock =>
    obtain ⟨es', h1, h2⟩ := h
    exact ⟨es', h1, h2.mono hle⟩
theorem BR.same {φ : Ph} {e : Syms} {w w' : World} {L : Loc} {b : Blk} (h : BR φ e w L b) (hw : w'.heap[L.B]? = w.heap[L.B]?) : BR φ e w' L b := by
  cases b with
  | cells cs =>
    obtain ⟨c, t, lo, hi, h1, h2⟩ := h
    exact ⟨c, t, lo, hi, hw.trans h1, h2⟩
  | map es clock =>
    obtain ⟨es', h1, h2⟩ := h
    exact ⟨es', hw.trans h1, h2⟩
theorem BR.lt {φ : Ph} {e : Syms} {w : World} {L : Loc} {b : Blk} (h : BR φ e w L b) : L.B < w.heap.size := by
  cases b with
  | cells cs =>
    obtain ⟨c, t, lo, hi, h1, h2⟩ := h
    exact (Array.getElem?_eq_some_iff.1 h1).1
  | map es clock =>
    obtain ⟨es', h1, h2⟩ := h
    exact (Array.getElem?_eq_some_iff.1 h1).1

/-- does a block lie among the live ones? -/
def Live (φ : Ph) (h : Heap) (B : Nat) : Prop := ∃ b blk L, hro h b = false ∧ hget h b = some blk ∧ φ b = some L ∧ L.B = B

/-- does a block lie among those in sight? -/
def Here (φ : Ph) (h : Heap) (B : Nat) : Prop := ∃ b blk L, hget h b = some blk ∧ φ b = some L ∧ L.B = B
theorem Live.here {φ : Ph} {h : Heap} {B : Nat} (hl : Live φ h B) : Here φ h B := by
  obtain ⟨b, blk, L, _, hg, hL, hB⟩ := hl
  exact ⟨b, blk, L, hg, hL, hB⟩

/-- the state stands for the world -/
structure RW (G : Nat) (φ : Ph) (e : Syms) (h : Heap) (nx : Nat) (w : World) : Prop where
  live : ∀ b blk, HOk b → hget h b = some blk → ∃ L, φ b = some L ∧ BR φ e w L blk
  sep : ∀ b b' blk blk' L L', HOk b → HOk b' → hget h b = some blk → hget h b' = some blk' → φ b = some L → φ b' = some L' → b ≠ b' → hro h b = false → L.B ≠ L'.B
  dom : ∀ b L, φ b = some L → b < nx ∧ HOk b
  gl : ∀ g, g < G → ∃ S, φ g = some ⟨g, 0, S⟩
  exo : ∀ b blk L, hget h b = some blk → φ b = some L → hro h b = false → ¬ exB e L.B
  exb : ∀ B, exB e B → B < w.heap.size

/-- the state stands for what can be reached by the map; blocks that are not made yet may stand in it -/
structure RV (G : Nat) (φ : Ph) (e : Syms) (h : Heap) (w : World) : Prop where
  read : ∀ b blk L, φ b = some L → hget h b = some blk → BR φ e w L blk
  dom : ∀ b L, φ b = some L → HOk b
  gl : ∀ g, g < G → ∃ S, φ g = some ⟨g, 0, S⟩
theorem RW.rv {G : Nat} {φ : Ph} {e : Syms} {h : Heap} {nx : Nat} {w : World} (hR : RW G φ e h nx w) : RV G φ e h w where
  read := fun b blk L hL hg => by
    obtain ⟨L', hL', hB⟩ := hR.live b blk (hR.dom b L hL).2 hg
    rw [hL] at hL'; cases hL'; exact hB
  dom := fun b L hL => (hR.dom b L hL).2
  gl := hR.gl

/-- what has not been turned -/
structure Frame (φ : Ph) (h : Heap) (w : World) (φ' : Ph) (h' : Heap) (w' : World) : Prop where
  size : w.heap.size ≤ w'.heap.size
  keep : ∀ B, B < w.heap.size → ¬ Live φ h B → w'.heap[B]? = w.heap[B]?
  new : ∀ B, Live φ' h' B → B < w.heap.size → Live φ h B
  os : w'.os = w.os
  tape : w'.tape = w.tape
  output : w'.output = w.output
  lo : h'.lo = h.lo
  here : ∀ B, Here φ' h' B → B < w.heap.size → Here φ h B

theorem Frame.refl (φ : Ph) (h : Heap) (w : World) : Frame φ h w φ h w := ⟨Nat.le_refl _, fun _ _ _ => rfl, fun _ h _ => h, rfl, rfl, rfl, rfl, fun _ h _ => h⟩
theorem Frame.trans {φ φ1 φ2 : Ph} {h h1 h2 : Heap} {w w1 w2 : World} (a : Frame φ h w φ1 h1 w1) (b : Frame φ1 h1 w1 φ2 h2 w2) : Frame φ h w φ2 h2 w2 where
  size := Nat.le_trans a.size b.size
  keep := fun B hB hn => (b.keep B (Nat.lt_of_lt_of_le hB a.size) fun hl => hn (a.new B hl hB)).trans (a.keep B hB hn)
  new := fun B hl hB => a.new B (b.new B hl (Nat.lt_of_lt_of_le hB a.size)) hB
  os := b.os.trans a.os
  tape := b.tape.trans a.tape
  output := b.output.trans a.output
  lo := b.lo.trans a.lo
  here := fun B hl hB => a.here B (b.here B hl (Nat.lt_of_lt_of_le hB a.size)) hB

/-- numbers below are as they were -/
def Ext (φ φ' : Ph) (nx : Nat) : Prop := ∀ b, b < nx → φ' b = φ b
theorem Ext.refl (φ : Ph) (nx : Nat) : Ext φ φ nx := fun _ _ => rfl
theorem Ext.trans {φ φ1 φ2 : Ph} {n m : Nat} (a : Ext φ φ1 n) (b : Ext φ1 φ2 m) (h : n ≤ m) : Ext φ φ2 n :=
  fun x hx => (b x (Nat.lt_of_lt_of_le hx h)).trans (a x hx)
theorem Ext.le {φ φ' : Ph} {nx : Nat} (a : Ext φ φ' nx) (hd : ∀ b L, φ b = some L → b < nx ∧ HOk b) : Phi.le φ φ' :=
  fun b L h => (a b (hd b L h).1).trans h

/-! ## Frames of calls -/
theorem findT_some {t : Tmp} : ∀ {l : List Tmp} {i j : Nat}, findT t l i = some j → i ≤ j ∧ l[j - i]? = some t := by
  intro l
  induction l with
  | nil => intro i j h; cases h
  | cons a l ih =>
    intro i j h
    change sel (Nat.beq a t) (some i) (findT t l (Nat.succ i)) = some j at h
    cases hb : Nat.beq a t with
    | true => rw [hb] at h; cases h; exact ⟨Nat.le_refl _, by simp [natBeq hb]⟩
    | false =>
      rw [hb] at h
      obtain ⟨h1, h2⟩ := ih h
      refine ⟨by omega, ?_⟩
      rw [show j - i = (j - (i + 1)) + 1 by omega, List.getElem?_cons_succ]
      exact h2
theorem findT_cons_self (t : Tmp) (l : List Tmp) (i : Nat) : findT t (t :: l) i = some i := by
  show sel (Nat.beq t t) (some i) (findT t l (Nat.succ i)) = some i
  rw [Nat.beq_refl]
theorem findT_shift {t : Tmp} : ∀ {l : List Tmp} {i j : Nat}, findT t l (i + 1) = some (j + 1) → findT t l i = some j := by
  intro l
  induction l with
  | nil => intro i j h; cases h
  | cons a l ih =>
    intro i j h
    change sel (Nat.beq a t) (some (i + 1)) (findT t l (i + 1 + 1)) = some (j + 1) at h
    change sel (Nat.beq a t) (some i) (findT t l (i + 1)) = some j
    cases hb : Nat.beq a t with
    | true => rw [hb] at h; cases h; rfl
    | false => rw [hb] at h; exact ih h
theorem findT_cons_ne {t a : Tmp} {l : List Tmp} {j : Nat} (hne : a ≠ t) (h : findT t (a :: l) 0 = some j) : ∃ k, j = k + 1 ∧ findT t l 0 = some k := by
  change sel (Nat.beq a t) (some 0) (findT t l 1) = some j at h
  cases hb : Nat.beq a t with
  | true => exact absurd (natBeq hb) hne
  | false =>
    rw [hb] at h
    have h' : findT t l 1 = some j := h
    obtain ⟨h1, _⟩ := findT_some h'
    obtain ⟨k, rfl⟩ : ∃ k, j = k + 1 := ⟨j - 1, by omega⟩
    exact ⟨k, rfl, findT_shift h'⟩

/-- a frame's temporaries -/
structure AR (φ : Ph) (e : Syms) (N : Nat) (cx : Cx) (nv : Env) (tm : TM) (A : Act) : Prop where
  size : A.tmps.size = N
  dep : N ≤ 2 ^ cx.dp
  val : ∀ t v, t < 2 ^ cx.dp → tget cx.dp t tm = some v → VR φ e v (A.tmps.getD t undef)
  off : ∀ t, t < 2 ^ cx.dp → hasBit cx.L t = true → tget cx.dp t tm = none
  nv : ∀ t j v, findT t cx.loc 0 = some j → nv[j]? = some v → VR φ e v (A.tmps.getD t undef)

theorem AR.mono {φ φ' : Ph} {e : Syms} {N : Nat} {cx : Cx} {nv : Env} {tm : TM} {A : Act} (h : AR φ e N cx nv tm A) (hle : Phi.le φ φ') : AR φ' e N cx nv tm A :=
  ⟨h.size, h.dep, fun t v ht hv => (h.val t v ht hv).mono hle, h.off, fun t j v hj hv => (h.nv t j v hj hv).mono hle⟩

section
variable {G N : Nat} {φ : Ph} {e : Syms} {cx : Cx} {nv : Env} {tm : TM} {A : Act} {h : Heap} {nx : Nat} {w : World}

theorem cO_ok (hA : AR φ e N cx nv tm A) (hgl : ∀ g, g < cx.G → ∃ S, φ g = some ⟨g, 0, S⟩) {x : Operand} {v : AV} (hv : (cO cx x).run nv tm = some v) : VR φ e v (A.eval x) := by
  cases x with
  | tmp t =>
    change (coT cx.dp cx.L t (findT t cx.loc 0)).run nv tm = some v at hv
    cases hf : findT t cx.loc 0 with
    | some j =>
      rw [hf] at hv
      change lget nv j = some v at hv
      rw [lget_eq] at hv
      exact hA.nv t j v hf hv
    | none =>
      rw [hf] at hv
      change (sel (hasBit cx.L t) coNone (sel (Nat.blt t (Nat.pow 2 cx.dp)) (coTmp (pathOf cx.dp t) t) coNone)).run nv tm = some v at hv
      cases hb : hasBit cx.L t with
      | true => rw [hb] at hv; cases hv
      | false =>
        rw [hb] at hv
        cases hlt : Nat.blt t (Nat.pow 2 cx.dp) with
        | false => rw [hlt] at hv; cases hv
        | true => rw [hlt] at hv; exact hA.val t v (natBlt hlt) hv
  | const c =>
    change (coConst (ofValue 4 c)).run nv tm = some v at hv
    cases hc : ofValue 4 c with
    | none => rw [hc] at hv; cases hv
    | some a => rw [hc] at hv; cases hv; exact ofValue_ok 4 hc
  | global g =>
    change (sel (Nat.blt g cx.G) (coVal (.ptr g 0)) coNone).run nv tm = some v at hv
    cases hb : Nat.blt g cx.G with
    | false => rw [hb] at hv; cases hv
    | true =>
      rw [hb] at hv; cases hv
      obtain ⟨S, hS⟩ := hgl g (natBlt hb)
      exact .ptr g 0 _ hS
  | func f => cases hv; exact .func f [] [] [] [] .nil .nil

theorem evL_ok (hA : AR φ e N cx nv tm A) (hgl : ∀ g, g < cx.G → ∃ S, φ g = some ⟨g, 0, S⟩) : ∀ {l : List Operand} {r : List AV}, evL (cOs cx l) nv tm = some r → VRL φ e r (l.map A.eval) := by
  intro l
  induction l with
  | nil => intro r h; cases h; exact .nil
  | cons x l ih =>
    intro r h
    obtain ⟨b, q, hb, hq, rfl⟩ := mapO_cons (f := fun c => CO.run c nv tm) (a := cO cx x) (l := cOs cx l) h
    exact .cons _ _ _ _ (cO_ok hA hgl hb) (ih hq)
end
end Go.AE

/-
A symbolic executor: the operations that only look do what they are told to do.
-/
namespace Go.AE

section
variable {P : Program} {φ : Ph} {e : Syms} {w w' : World}

theorem VR.agg' {cs : List AV} {a : Array Value} (h : VRL φ e cs a.toList) : VR φ e (.agg cs) (.agg a) := by
  have := VR.agg (φ := φ) (e := e) cs a.toList h
  simpa using this
theorem VR.tuple' {cs : List AV} {a : Array Value} (h : VRL φ e cs a.toList) : VR φ e (.tuple cs) (.tuple a) := by
  have := VR.tuple (φ := φ) (e := e) cs a.toList h
  simpa using this

/-! what a value is, by its abstract one -/
theorem VR.inv_ptr {b o : Nat} {u : Value} (h : VR φ e (.ptr b o) u) : ∃ L, φ b = some L ∧ u = .pointer (some ⟨L.B, L.O + o, none⟩) := by
  cases h with | ptr _ _ L h => exact ⟨L, h, rfl⟩
theorem VR.inv_int {k : IntKind} {n : Int} {u : Value} (h : VR φ e (.int k n) u) : u = .int k n := by cases h; rfl
theorem VR.inv_bool {b : Bool} {u : Value} (h : VR φ e (.bool b) u) : u = .bool b := by cases h; rfl
theorem VR.inv_str {n x : Nat} {u : Value} (h : VR φ e (.str n x) u) : ∃ s, u = .string s ∧ s.data.toList = unpack n x := by
  cases h with | str _ _ s h => exact ⟨s, rfl, h⟩
theorem VR.inv_agg {cs : List AV} {u : Value} (h : VR φ e (.agg cs) u) : ∃ a : Array Value, u = .agg a ∧ VRL φ e cs a.toList := by
  cases h with | agg _ us h => exact ⟨us.toArray, rfl, by simpa using h⟩
theorem VR.inv_tuple {cs : List AV} {u : Value} (h : VR φ e (.tuple cs) u) : ∃ a : Array Value, u = .tuple a ∧ VRL φ e cs a.toList := by
  cases h with | tuple _ us h => exact ⟨us.toArray, rfl, by simpa using h⟩
theorem VR.inv_iface {t : TypeId} {v : AV} {u : Value} (h : VR φ e (.iface t v) u) : ∃ x, u = .iface t x ∧ VR φ e v x := by
  cases h with | iface _ _ x h => exact ⟨x, rfl, h⟩
theorem VR.inv_func {f : FuncId} {a c : List AV} {u : Value} (h : VR φ e (.func f a c) u) :
    ∃ A C : Array Value, u = .func (.func f) A C ∧ VRL φ e a A.toList ∧ VRL φ e c C.toList := by
  cases h with | func _ _ _ A C ha hc => exact ⟨A.toArray, C.toArray, rfl, by simpa using ha, by simpa using hc⟩
theorem VR.inv_map {r : Nat} {u : Value} (h : VR φ e (.map r) u) : ∃ L, φ r = some L ∧ u = .map (some L.B) := by
  cases h with | map _ L h => exact ⟨L, h, rfl⟩

section on
variable {β : Type} {v : AV} {r : β}
theorem onPtr_some {k : Nat → Nat → Option β} (h : onPtr v k = some r) : ∃ b o, v = .ptr b o ∧ k b o = some r := by
  cases v <;> first | exact ⟨_, _, rfl, h⟩ | cases h
theorem onInt_some {k : IntKind → Int → Option β} (h : onInt v k = some r) : ∃ j n, v = .int j n ∧ k j n = some r := by
  cases v <;> first | exact ⟨_, _, rfl, h⟩ | cases h
theorem onBool_some {k : Bool → Option β} (h : onBool v k = some r) : ∃ b, v = .bool b ∧ k b = some r := by
  cases v <;> first | exact ⟨_, rfl, h⟩ | cases h
theorem onStr_some {k : Nat → Nat → Option β} (h : onStr v k = some r) : ∃ n x, v = .str n x ∧ k n x = some r := by
  cases v <;> first | exact ⟨_, _, rfl, h⟩ | cases h
theorem onAgg_some {k : List AV → Option β} (h : onAgg v k = some r) : ∃ l, v = .agg l ∧ k l = some r := by
  cases v <;> first | exact ⟨_, rfl, h⟩ | cases h
theorem onTuple_some {k : List AV → Option β} (h : onTuple v k = some r) : ∃ l, v = .tuple l ∧ k l = some r := by
  cases v <;> first | exact ⟨_, rfl, h⟩ | cases h
theorem onFunc_some {k : FuncId → List AV → List AV → Option β} (h : onFunc v k = some r) : ∃ f a c, v = .func f a c ∧ k f a c = some r := by
  cases v <;> first | exact ⟨_, _, _, rfl, h⟩ | cases h
theorem onIface_some {k : TypeId → AV → Option β} (h : onIface v k = some r) : ∃ t x, v = .iface t x ∧ k t x = some r := by
  cases v <;> first | exact ⟨_, _, rfl, h⟩ | cases h
theorem onMap_some {k : Nat → Option β} (h : onMap v k = some r) : ∃ m, v = .map m ∧ k m = some r := by
  cases v <;> first | exact ⟨_, rfl, h⟩ | cases h
theorem onNatI_some {n : Int} {k : Nat → Option β} (h : onNatI n k = some r) : ∃ m : Nat, n = .ofNat m ∧ k m = some r := by
  cases n with
  | ofNat m => exact ⟨m, rfl, h⟩
  | negSucc m => cases h
theorem onNat_some {k : Nat → Option β} (h : onNat v k = some r) : ∃ (j : IntKind) (m : Nat), v = .int j (.ofNat m) ∧ k m = some r := by
  obtain ⟨j, n, rfl, h⟩ := onInt_some h
  obtain ⟨m, rfl, h⟩ := onNatI_some h
  exact ⟨j, m, rfl, h⟩
theorem onCells_some {b : Blk} {k : List AV → Option β} (h : onCells b k = some r) : ∃ cs, b = .cells cs ∧ k cs = some r := by
  cases b <;> first | exact ⟨_, rfl, h⟩ | cases h
theorem onEnts_some {b : Blk} {k : List Ent → Nat → Option β} (h : onEnts b k = some r) : ∃ es c, b = .map es c ∧ k es c = some r := by
  cases b <;> first | exact ⟨_, _, rfl, h⟩ | cases h
end on

/-! types -/
theorem szT_some {t : TypeId} {n : Nat} (h : szT P t = some n) (w : World) : (sizeOf t).run P w = .ok n w := by
  obtain ⟨i, hi, h⟩ := ob_some (x := P.info? t) h
  cases h
  simp [sizeOf, typeInfo, hi]
theorem zeroA_some {t : TypeId} {v : AV} (h : zeroA P t = some v) (φ : Ph) (e : Syms) : ∃ u, (∀ w, (zeroValue t).run P w = .ok u w) ∧ VR φ e v u := by
  obtain ⟨i, hi, h⟩ := ob_some (x := P.info? t) h
  obtain ⟨u, hu, h⟩ := ob_some (x := i.zero) h
  exact ⟨u, fun w => by simp [zeroValue, typeInfo, hi, hu], ofValue_ok 4 h⟩
theorem bytesT_some {t : TypeId} {n : Nat} (h : bytesT P t = some n) (w : World) : ∃ i, (typeInfo t).run P w = .ok i w ∧ i.bytes = n := by
  obtain ⟨i, hi, h⟩ := ob_some (x := P.info? t) h
  cases h
  exact ⟨i, by simp [typeInfo, hi], rfl⟩
theorem isAgg_run {t : TypeId} {d : TypeDesc} (h : P.underlying t = some d) (w : World) :
    (isAgg t).run P w = .ok (match d with | .struct _ | .array _ _ => true | _ => false) w := by
  cases d <;> simp [isAgg, run_underlying h]

/-- how 'partK' was made -/
theorem partK_cases (t : TypeId) : (∃ n, szT P t = some n ∧ (∀ w, (isAgg t).run P w = .ok true w) ∧ partK P t = pkAgg n) ∨
    (∃ n, szT P t = some n ∧ (∀ w, (isAgg t).run P w = .ok false w) ∧ partK P t = pkOne) ∨ partK P t = pkNone := by
  unfold partK und
  cases hd : P.underlying t with
  | none => exact .inr (.inr rfl)
  | some d =>
    cases hs : szT P t with
    | none => cases d <;> exact .inr (.inr rfl)
    | some n =>
      cases d with
      | struct fs => exact .inl ⟨n, rfl, fun w => isAgg_run hd w, rfl⟩
      | array k el => exact .inl ⟨n, rfl, fun w => isAgg_run hd w, rfl⟩
      | _ => exact .inr (.inl ⟨n, rfl, fun w => isAgg_run hd w, rfl⟩)

theorem part_ok {t : TypeId} {cs : List AV} {off : Nat} {v : AV} (h : (partK P t).run cs off = some v) {us : Array Value} (hv : VRL φ e cs us.toList) (w : World) :
    ∃ u, (part t us off).run P w = .ok u w ∧ VR φ e v u := by
  rcases partK_cases (P := P) t with ⟨n, hs, ha, hp⟩ | ⟨n, hs, ha, hp⟩ | hp
  · rw [hp] at h
    obtain ⟨l, hl, h⟩ := ob_some (x := ltake n (ldrop off cs)) h
    cases h
    rw [ldrop_eq] at hl
    obtain ⟨h1, rfl⟩ := ltake_some n hl
    refine ⟨.agg (us.extract off (off + n)), by simp [part, ha, szT_some hs], .agg' ?_⟩
    have : (us.extract off (off + n)).toList = (us.toList.drop off).take n := by
      rw [Array.toList_extract, List.extract_eq_take_drop]; congr 1; omega
    rw [this]
    exact (hv.drop off).take n
  · rw [hp] at h
    change lget cs off = some v at h
    rw [lget_eq] at h
    obtain ⟨u, hu, hr⟩ := hv.get h
    have hu' : us[off]? = some u := by rw [← Array.getElem?_toList]; exact hu
    exact ⟨u, by simp [part, ha, hu'], hr⟩
  · rw [hp] at h; cases h

/-- a variable is read -/
theorem loadVar_ok {t : TypeId} {o : Nat} {v : AV} {cs : List AV} {L : Loc} (h : (partK P t).run cs o = some v) (hb : BR φ e w L (.cells cs)) :
    ∃ u, (loadVar t ⟨L.B, L.O + o, none⟩).run P w = .ok u w ∧ VR φ e v u := by
  obtain ⟨c, ty, lo, hi, h1, h2, h3, h4, h5⟩ := hb
  have hcell : ∀ i v, cs[i]? = some v → ∃ u, w.cell? ⟨L.B, L.O + i, none⟩ = some u ∧ VR φ e v u := by
    intro i v hv
    obtain ⟨u, hu, hr⟩ := h5 i v hv
    exact ⟨u, by simp [World.cell?, h1, hu], hr⟩
  rcases partK_cases (P := P) t with ⟨n, hs, ha, hp⟩ | ⟨n, hs, ha, hp⟩ | hp
  · rw [hp] at h
    obtain ⟨l, hl, h⟩ := ob_some (x := ltake n (ldrop o cs)) h
    cases h
    rw [ldrop_eq] at hl
    obtain ⟨h6, rfl⟩ := ltake_some n hl
    have hlen : ((cs.drop o).take n).length = n := by rw [List.length_take]; omega
    -- the values that lie there
    have hex : ∀ m, m ≤ n → ∃ us : List Value, us.length = m ∧ ∀ j a, j < m → ((cs.drop o).take n)[j]? = some a → ∃ u, us[j]? = some u ∧ w.cell? ⟨L.B, L.O + o + j, none⟩ = some u ∧ VR φ e a u := by
      intro m
      induction m with
      | zero => intro _; exact ⟨[], rfl, fun j a hj => by omega⟩
      | succ m ih =>
        intro hm
        obtain ⟨us, hl, hus⟩ := ih (by omega)
        have hmn : m < ((cs.drop o).take n).length := by omega
        have hm' : cs[o + m]? = some (((cs.drop o).take n)[m]) := by
          have : ((cs.drop o).take n)[m]? = some (((cs.drop o).take n)[m]) := List.getElem?_eq_getElem hmn
          rw [List.getElem?_take, if_pos (by omega), List.getElem?_drop] at this
          exact this
        obtain ⟨u, hu, hr⟩ := hcell _ _ hm'
        refine ⟨us ++ [u], by simp [hl], fun j a hj ha => ?_⟩
        by_cases hjm : j < m
        · obtain ⟨u', hu', h''⟩ := hus j a hjm ha
          exact ⟨u', by rw [List.getElem?_append_left (by omega)]; exact hu', h''⟩
        · obtain rfl : j = m := by omega
          rw [List.getElem?_eq_getElem hmn] at ha
          cases ha
          exact ⟨u, by rw [List.getElem?_append_right (by omega)]; simp [hl], by rw [Nat.add_assoc]; exact hu, hr⟩
    obtain ⟨us, hul, hus⟩ := hex n (Nat.le_refl _)
    have hrun := run_loadCells_list (P := P) w ⟨L.B, L.O + o, none⟩ us (fun j v hv => by
      have hj : j < n := by
        rcases Nat.lt_or_ge j us.length with h | h
        · omega
        · rw [List.getElem?_eq_none h] at hv; cases hv
      obtain ⟨u, hu, hc, _⟩ := hus j _ hj (List.getElem?_eq_getElem (by omega))
      rw [hu] at hv; cases hv
      rw [show (⟨L.B, L.O + o, none⟩ : Addr).add j = ⟨L.B, L.O + o + j, none⟩ from by unfold Addr.add; split <;> simp_all]
      exact hc)
    rw [hul] at hrun
    refine ⟨.agg us.toArray, by simp [loadVar, ha, szT_some hs, hrun], .agg _ _ (.of_get (by omega) fun i a hi' => ?_)⟩
    have hj : i < n := by
      rcases Nat.lt_or_ge i n with h | h
      · exact h
      · rw [List.getElem?_eq_none (by omega)] at hi'; cases hi'
    obtain ⟨u, hu, _, hr⟩ := hus i a hj hi'
    exact ⟨u, hu, hr⟩
  · rw [hp] at h
    change lget cs o = some v at h
    rw [lget_eq] at h
    obtain ⟨u, hu, hr⟩ := hcell _ _ h
    exact ⟨u, by simp [loadVar, ha, hu], hr⟩
  · rw [hp] at h; cases h

theorem loadB_ok {G : Nat} {h : Heap} (hR : RV G φ e h w) {t : TypeId} {b o : Nat} {v : AV} {L : Loc} (hL : φ b = some L) (hv : loadB (partK P t) h b o = some v) :
    ∃ u, (loadVar t ⟨L.B, L.O + o, none⟩).run P w = .ok u w ∧ VR φ e v u := by
  obtain ⟨blk, hb, hv⟩ := ob_some (x := hget h b) hv
  obtain ⟨cs, rfl, hv⟩ := onCells_some hv
  have hB := hR.read b _ L hL hb
  exact loadVar_ok hv hB
end
end Go.AE

/-
A symbolic executor: comparisons and arithmetic.
-/
namespace Go.AE

section
variable {P : Program} {φ : Ph} {e : Syms}

theorem equalIn_fields (ih : TypeId → EQ) (d : Nat)
    (hih : ∀ (t : TypeId) (a b : AV) (r : Bool) (x y : Value) (w : World), (ih t).run a b = some r → VR φ e a x → VR φ e b y → (Op.equalIn d t x y).run P w = .ok r w) :
    ∀ (fs : List Field) (xs ys : List AV) (r : Bool) (us vs : Array Value) (w : World), eqFields P ih fs xs ys = some r → VRL φ e xs us.toList → VRL φ e ys vs.toList →
      (Op.eqFields d us vs fs).run P w = .ok r w := by
  intro fs
  induction fs with
  | nil => intro xs ys r us vs w h hx hy; cases h; simp [Op.eqFields]
  | cons f fs ihf =>
    intro xs ys r us vs w h hx hy
    change sel (decide (f.name = "_")) (eqFields P ih fs) (eqField (ih f.type) (partK P f.type) f.offset (eqFields P ih fs)) xs ys = some r at h
    by_cases hn : f.name = "_"
    · rw [show decide (f.name = "_") = true by simp [hn]] at h
      simp only [Op.eqFields, hn, ne_eq, not_true, if_false]
      exact ihf xs ys r us vs w h hx hy
    · rw [show decide (f.name = "_") = false by simp [hn]] at h
      obtain ⟨u, hu, h⟩ := ob_some (x := (partK P f.type).run xs f.offset) h
      obtain ⟨v, hv, h⟩ := ob_some (x := (partK P f.type).run ys f.offset) h
      obtain ⟨q, hq, h⟩ := ob_some (x := (ih f.type).run u v) h
      obtain ⟨x, hx1, hx2⟩ := part_ok hu hx w
      obtain ⟨y, hy1, hy2⟩ := part_ok hv hy w
      have he := hih f.type u v q x y w hq hx2 hy2
      cases q with
      | false =>
        cases h
        simp [Op.eqFields, hn, hx1, hy1, he]
      | true =>
        have := ihf xs ys r us vs w h hx hy
        simp [Op.eqFields, hn, hx1, hy1, he, this]

theorem eqT_ok (fuel : Nat) : ∀ (d : Nat), fuel ≤ d → ∀ (t : TypeId) (a b : AV) (r : Bool) (x y : Value) (w : World), (eqT P fuel t).run a b = some r → VR φ e a x → VR φ e b y →
    (Op.equalIn d t x y).run P w = .ok r w := by
  induction fuel with
  | zero => intro d _ t a b r x y w h; cases h
  | succ n ih =>
    intro d hd t a b r x y w h hx hy
    obtain ⟨d, rfl⟩ : ∃ m, d = m + 1 := ⟨d - 1, by omega⟩
    have ih := ih d (by omega)
    change (eqOfO P (eqT P n) t (P.underlying t)).run a b = some r at h
    cases hu : P.underlying t with
    | none => rw [hu] at h; cases h
    | some td =>
      rw [hu] at h
      cases td with
      | bool =>
        obtain ⟨p, rfl, h⟩ := onBool_some h
        obtain ⟨q, rfl, h⟩ := onBool_some h
        cases h; cases hx; cases hy
        rw [run_equalIn_bool' w d t p q hu]
      | int k =>
        obtain ⟨j, p, rfl, h⟩ := onInt_some h
        obtain ⟨j', q, rfl, h⟩ := onInt_some h
        obtain ⟨hk, h2⟩ := guardB_some h
        clear h
        cases beqK_eq hk
        cases h2; cases hx; cases hy
        rw [eqI_eq, run_equalIn_int w d t j k p q hu]
      | string =>
        obtain ⟨n1, p, rfl, h⟩ := onStr_some h
        obtain ⟨n2, q, rfl, h⟩ := onStr_some h
        cases h
        obtain ⟨s, rfl, hs⟩ := hx.inv_str
        obtain ⟨s', rfl, hs'⟩ := hy.inv_str
        rw [run_equalIn_string w d t s s' hu, strEq_eq, ← hs, ← hs', ByteArray.toList_eq, ByteArray.toList_eq]
      | pointer el =>
        change eqPtrF a b = some r at h
        unfold eqPtrF at h
        split at h
        · split at h <;> cases h
          · cases hx; cases hy; (simp only [Op.equalIn, Sem.run_bind, run_underlying hu, Result.andThen_ok]; rfl)
          · cases hx; cases hy; (simp only [Op.equalIn, Sem.run_bind, run_underlying hu, Result.andThen_ok]; rfl)
        · split at h <;> cases h
          cases hx; cases hy; (simp only [Op.equalIn, Sem.run_bind, run_underlying hu, Result.andThen_ok]; rfl)
        · cases h
      | slice el =>
        change eqSliceF a b = some r at h
        unfold eqSliceF at h
        split at h
        · split at h <;> cases h
          · cases hx; cases hy; (simp only [Op.equalIn, Sem.run_bind, run_underlying hu, Result.andThen_ok]; rfl)
          · cases hx; cases hy <;> (simp only [Op.equalIn, Sem.run_bind, run_underlying hu, Result.andThen_ok]; rfl)
        · split at h <;> cases h
          cases hx <;> cases hy <;> (simp only [Op.equalIn, Sem.run_bind, run_underlying hu, Result.andThen_ok]; rfl)
        · cases h
      | map kt el =>
        change eqMapF a b = some r at h
        unfold eqMapF at h
        split at h
        · split at h <;> cases h
          · cases hx; cases hy; (simp only [Op.equalIn, Sem.run_bind, run_underlying hu, Result.andThen_ok]; rfl)
          · cases hx; cases hy; (simp only [Op.equalIn, Sem.run_bind, run_underlying hu, Result.andThen_ok]; rfl)
        · split at h <;> cases h
          cases hx; cases hy; (simp only [Op.equalIn, Sem.run_bind, run_underlying hu, Result.andThen_ok]; rfl)
        · cases h
      | func ps rs va =>
        change eqFuncF a b = some r at h
        unfold eqFuncF at h
        split at h
        · split at h <;> cases h
          · cases hx; cases hy; (simp only [Op.equalIn, Sem.run_bind, run_underlying hu, Result.andThen_ok]; rfl)
          · cases hx; cases hy; (simp only [Op.equalIn, Sem.run_bind, run_underlying hu, Result.andThen_ok]; rfl)
        · split at h <;> cases h
          cases hx; cases hy; (simp only [Op.equalIn, Sem.run_bind, run_underlying hu, Result.andThen_ok]; rfl)
        · cases h
      | interface ms =>
        change eqIfaceF P (eqT P n) a b = some r at h
        unfold eqIfaceF at h
        split at h
        · split at h <;> cases h
          · cases hx; cases hy; (simp only [Op.equalIn, Sem.run_bind, run_underlying hu, Result.andThen_ok]; rfl)
          · cases hx; cases hy; (simp only [Op.equalIn, Sem.run_bind, run_underlying hu, Result.andThen_ok]; rfl)
        · rename_i tx u
          split at h
          · cases h; cases hx; cases hy; (simp only [Op.equalIn, Sem.run_bind, run_underlying hu, Result.andThen_ok]; rfl)
          · rename_i ty v
            obtain ⟨x', rfl, hx'⟩ := hx.inv_iface
            obtain ⟨y', rfl, hy'⟩ := hy.inv_iface
            cases hb : Nat.beq tx ty with
            | false =>
              rw [hb] at h; cases h
              have := natBeq_false hb
              simp only [Op.equalIn, Sem.run_bind, run_underlying hu, Result.andThen_ok, ne_eq, this, not_false_eq_true, if_true, Sem.run_pure]
            | true =>
              rw [hb] at h
              have := natBeq hb
              subst this
              obtain ⟨i, hi, h⟩ := ob_some (x := P.info? tx) h
              obtain ⟨hc, h⟩ := guardB_some h
              have he := ih tx u v r x' y' w h hx' hy'
              have hti : (typeInfo tx).run P w = .ok i w := by simp [typeInfo, hi]
              simp only [Op.equalIn, Sem.run_bind, run_underlying hu, Result.andThen_ok, ne_eq, not_true, if_false, hti, hc, Bool.not_true, Bool.false_eq_true, he]
          · cases h
        · cases h
      | struct fs =>
        change (sel (P.stoodInHeld t) eqNone ⟨eqStructF P (eqT P n) fs.toList⟩ : EQ).run a b = some r at h
        cases hs : P.stoodInHeld t with
        | true => rw [hs] at h; cases h
        | false =>
          rw [hs] at h
          obtain ⟨xs, rfl, h⟩ := onAgg_some h
          obtain ⟨ys, rfl, h⟩ := onAgg_some h
          obtain ⟨us, rfl, hx'⟩ := hx.inv_agg
          obtain ⟨vs, rfl, hy'⟩ := hy.inv_agg
          have hf : P.fieldsOf t = fs := by simp [Program.fieldsOf, hu]
          rw [run_equalIn_struct w d t us vs (by rw [hf]; exact hu) hs, hf]
          exact equalIn_fields (eqT P n) d ih fs.toList xs ys r us vs w h hx' hy'
      | _ => cases h

/-! ## Two operands -/
theorem natPair_some {a b : Int} {k : Nat → Nat → Option AV} {v : AV} (h : natPair a b k = some v) : ∃ m n : Nat, a = .ofNat m ∧ b = .ofNat n ∧ k m n = some v := by
  obtain ⟨m, hm, h1⟩ := onNatI_some h
  obtain ⟨n, hn, h2⟩ := onNatI_some h1
  exact ⟨m, n, hm, hn, h2⟩
theorem remI_eq (a b : Int) : remI a b = a.tmod b := by
  unfold remI
  split <;> rfl
theorem intBit_some {f : Nat → Nat → Nat} {k : IntKind} {a b : Int} {v : AV} (h : intBit f k a b = some v) :
    ∃ m n : Nat, a = .ofNat m ∧ b = .ofNat n ∧ m < top k ∧ n < top k ∧ some (AV.int k (wrapF k (.ofNat (f m n)))) = some v := by
  obtain ⟨m, n, hm, hn, h1⟩ := natPair_some h
  obtain ⟨h2, h3⟩ := guardB_some h1
  obtain ⟨h4, h5⟩ := andB_true h2
  exact ⟨m, n, hm, hn, natBlt h4, natBlt h5, h3⟩
theorem top_le (k : IntKind) : top k ≤ 2 ^ k.bits := by cases k <;> decide
theorem ofInt_nat (b m : Nat) (h : m < 2 ^ b) : (BitVec.ofInt b (m : Int)).toNat = m := by
  rw [BitVec.toNat_ofInt]
  have : ((m : Int) % (2 ^ b : Nat)).toNat = m := by
    rw [Int.emod_eq_of_lt (by omega) (by exact_mod_cast h)]; simp
  exact this
theorem bits_and_nat {k : IntKind} {m n : Nat} (h1 : m < top k) (h2 : n < top k) : bits .and k (m : Int) (n : Int) = wrapF k (.ofNat (Nat.land m n)) := by
  have a := top_le k
  rw [wrapF_eq]
  unfold bits
  simp only [BitVec.toNat_and, ofInt_nat k.bits m (by omega), ofInt_nat k.bits n (by omega)]
  rfl
theorem bits_or_nat {k : IntKind} {m n : Nat} (h1 : m < top k) (h2 : n < top k) : bits .or k (m : Int) (n : Int) = wrapF k (.ofNat (Nat.lor m n)) := by
  have a := top_le k
  rw [wrapF_eq]
  unfold bits
  simp only [BitVec.toNat_or, ofInt_nat k.bits m (by omega), ofInt_nat k.bits n (by omega)]
  rfl
theorem bits_xor_nat {k : IntKind} {m n : Nat} (h1 : m < top k) (h2 : n < top k) : bits .xor k (m : Int) (n : Int) = wrapF k (.ofNat (Nat.xor m n)) := by
  have a := top_le k
  rw [wrapF_eq]
  unfold bits
  simp only [BitVec.toNat_xor, ofInt_nat k.bits m (by omega), ofInt_nat k.bits n (by omega)]
  rfl

theorem binInt_ok {op : BinOp} {k : IntKind} {a : Int} {b v : AV} {y : Value} (h : binInt op k a b = some v) (hy : VR φ e b y) (t : TypeId) (hop : op ≠ .shl ∧ op ≠ .shr) (w : World) :
    ∃ u, (binOp op t (.int k a) y).run P w = .ok u w ∧ VR φ e v u := by
  obtain ⟨k', c, rfl, h1⟩ := onInt_some h
  clear h
  obtain ⟨hk, h⟩ := guardB_some h1
  clear h1
  cases beqK_eq hk
  cases hy.inv_int
  cases op <;> simp only [intBin] at h <;> try (cases h; done)
  · cases h; rw [wrapF_eq, addI_eq]; exact ⟨_, by simp [binOp, Op.intArith], .int _ _⟩
  · cases h; rw [wrapF_eq, subI_eq]; exact ⟨_, by simp [binOp, Op.intArith], .int _ _⟩
  · cases h; rw [wrapF_eq, mulI_eq]; exact ⟨_, by simp [binOp, Op.intArith], .int _ _⟩
  · obtain ⟨h0, h1⟩ := guardB_some h
    clear h
    obtain ⟨m, n, rfl, rfl, h2⟩ := natPair_some h1
    cases h2
    rw [notB_eq, eqI_eq] at h0
    have h0 : ¬ ((n : Int) = 0) := by simpa using h0
    refine ⟨.int k (k.wrap ((m : Int).tdiv (n : Int))), by simp [binOp, Op.intDiv]; intro hz; omega, ?_⟩
    rw [wrapF_eq]
    exact .int _ _
  · obtain ⟨h0, h1⟩ := guardB_some h
    clear h
    have h1 : some (AV.int k (remI a c)) = some v := by cases a <;> exact h1
    cases h1
    rw [notB_eq, eqI_eq] at h0
    have h0 : ¬ (c = 0) := by simpa using h0
    refine ⟨.int k (a.tmod c), by simp [binOp, Op.intDiv]; intro hz; exact absurd hz h0, ?_⟩
    rw [remI_eq]
    exact .int _ _
  · obtain ⟨m, n, rfl, rfl, h1, h2, h3⟩ := intBit_some h
    cases h3
    refine ⟨.int k (bits .and k (m : Int) (n : Int)), by simp [binOp, intBits_and], ?_⟩
    rw [bits_and_nat h1 h2]
    exact .int _ _
  · obtain ⟨m, n, rfl, rfl, h1, h2, h3⟩ := intBit_some h
    cases h3
    refine ⟨.int k (bits .or k (m : Int) (n : Int)), by simp [binOp, intBits_or], ?_⟩
    rw [bits_or_nat h1 h2]
    exact .int _ _
  · obtain ⟨m, n, rfl, rfl, h1, h2, h3⟩ := intBit_some h
    cases h3
    refine ⟨.int k (bits .xor k (m : Int) (n : Int)), by simp [binOp, intBits_xor], ?_⟩
    rw [bits_xor_nat h1 h2]
    exact .int _ _
  · cases h; rw [eqI_eq]; exact ⟨_, by simp [binOp, Op.intCmp], .bool _⟩
  · cases h; rw [notB_eq, eqI_eq]; exact ⟨.bool (a != c), by simp [binOp, Op.intCmp], .bool _⟩
  · cases h; rw [ltI_eq]; exact ⟨_, by simp [binOp, Op.intCmp], .bool _⟩
  · cases h; rw [notB_eq, ltI_eq]; exact ⟨.bool (decide (a ≤ c)), by simp [binOp, Op.intCmp], by rw [show (!decide (c < a)) = decide (a ≤ c) by rw [Bool.eq_iff_iff]; simp]; exact .bool _⟩
  · cases h; rw [ltI_eq]; exact ⟨.bool (decide (c < a)), by simp [binOp, Op.intCmp], .bool _⟩
  · cases h; rw [notB_eq, ltI_eq]; exact ⟨.bool (decide (c ≤ a)), by simp [binOp, Op.intCmp], by rw [show (!decide (a < c)) = decide (c ≤ a) by rw [Bool.eq_iff_iff]; simp]; exact .bool _⟩

theorem binStr_ok {op : BinOp} {n x : Nat} {b v : AV} {s : ByteArray} {y : Value} (h : binStr op n x b = some v) (hs : s.data.toList = unpack n x) (hy : VR φ e b y) (t : TypeId) (w : World) :
    ∃ u, (binOp op t (.string s) y).run P w = .ok u w ∧ VR φ e v u := by
  obtain ⟨m, z, rfl, h1⟩ := onStr_some h
  clear h
  obtain ⟨s', rfl, hs'⟩ := hy.inv_str
  have eq1 : (s.toList == s'.toList) = strEq n x m z := by rw [strEq_eq, ByteArray.toList_eq, ByteArray.toList_eq, hs, hs']
  have lt1 : Op.bytesLess s.toList s'.toList = strLt n x m z := by unfold strLt; rw [ByteArray.toList_eq, ByteArray.toList_eq, hs, hs']
  cases op <;> simp only [strBin] at h1 <;> try (cases h1; done)
  · obtain ⟨h2, h3⟩ := guardB_some h1
    cases h3
    have h2 := natBlt h2
    have h2 : n + m < 1000000000 := h2
    have hn : s.size = n := by rw [← unpack_length n x, ← hs]; exact (Array.length_toList).symm
    have hm : s'.size = m := by rw [← unpack_length m z, ← hs']; exact (Array.length_toList).symm
    refine ⟨.string (s ++ s'), ?_, .str _ _ _ ?_⟩
    · simp only [binOp, Op.stringOp]
      rw [if_neg (by rw [hn, hm, IntKind.max_i64]; omega)]
      rfl
    · rw [show (s ++ s').data.toList = s.data.toList ++ s'.data.toList by simp [ByteArray.data_append], hs, hs']
      exact (unpack_append n m x z).symm
  · cases h1; exact ⟨.bool (s.toList == s'.toList), by simp [binOp, Op.stringOp], by rw [eq1]; exact .bool _⟩
  · cases h1; exact ⟨.bool (!(s.toList == s'.toList)), by simp [binOp, Op.stringOp], by rw [eq1, notB_eq]; exact .bool _⟩
  · cases h1; exact ⟨.bool (Op.bytesLess s.toList s'.toList), by simp [binOp, Op.stringOp], by rw [lt1]; exact .bool _⟩
  · cases h1; exact ⟨.bool (Op.bytesLess s.toList s'.toList || (s.toList == s'.toList)), by simp [binOp, Op.stringOp], by rw [lt1, eq1]; exact .bool _⟩
  · cases h1; exact ⟨.bool (!(Op.bytesLess s.toList s'.toList || (s.toList == s'.toList))), by simp [binOp, Op.stringOp], by rw [lt1, eq1]; exact .bool _⟩
  · cases h1; exact ⟨.bool (!Op.bytesLess s.toList s'.toList), by simp [binOp, Op.stringOp], by rw [lt1]; exact .bool _⟩

/-- neither a number nor a string -/
def others (v : Value) : Bool := match v with
  | .int _ _ | .float _ _ | .complex _ _ _ | .string _ => false
  | _ => true
theorem binOp_eql_others {x : Value} (hx : others x = true) (t : TypeId) (y : Value) : binOp .eql t x y = (do pure (.bool (← Op.equal t x y)) : Sem Value) := by
  cases x <;> first | (cases hx; done) | (cases y <;> rfl)
theorem binOp_neq_others {x : Value} (hx : others x = true) (t : TypeId) (y : Value) : binOp .neq t x y = (do pure (.bool (!(← Op.equal t x y))) : Sem Value) := by
  cases x <;> first | (cases hx; done) | (cases y <;> rfl)
theorem binEq_ok {op : BinOp} {t : TypeId} {g : Bool} {a b v : AV} {x y : Value} (h : binEq op (eqT P 8 t) g a b = some v) (hx : VR φ e a x) (hy : VR φ e b y) (hn : others x = true) (w : World) :
    g = true ∧ ∃ u, (binOp op t x y).run P w = .ok u w ∧ VR φ e v u := by
  obtain ⟨hg, h1⟩ := guardB_some h
  refine ⟨hg, ?_⟩
  cases hq : isEq op with
  | true =>
    rw [hq] at h1
    obtain ⟨r, hr, h2⟩ := ob_some (x := (eqT P 8 t).run a b) h1
    cases h2
    have := eqT_ok 8 10000 (by decide) t a b r x y w hr hx hy
    have hop : op = .eql := by cases op <;> first | rfl | cases hq
    subst hop
    exact ⟨.bool r, by simp [binOp_eql_others hn, Op.equal, Op.maxDepth, this], .bool _⟩
  | false =>
    rw [hq] at h1
    obtain ⟨hq2, h2⟩ := guardB_some h1
    obtain ⟨r, hr, h3⟩ := ob_some (x := (eqT P 8 t).run a b) h2
    cases h3
    have := eqT_ok 8 10000 (by decide) t a b r x y w hr hx hy
    have hop : op = .neq := by cases op <;> first | rfl | cases hq2
    subst hop
    exact ⟨.bool (!r), by simp [binOp_neq_others hn, Op.equal, Op.maxDepth, this], by rw [notB_eq]; exact .bool _⟩

/-- the comparison's guard lets by all but nil interface values and aggregates -/
theorem eqGuard_ok {op : BinOp} {t : TypeId} {x y : Operand} {u v : Value}
    (hi : u = .nilIface → v = .nilIface → (isConstO x || isConstO y) = true) (ha : (∃ l, u = .agg l) → P.eqGuardType P.depth t = false) (w : World) :
    (eqGuard op t x y u v).run P w = .ok () w := by
  have key : ∀ op', op' = BinOp.eql ∨ op' = BinOp.neq → (eqGuard op' t x y u v).run P w = .ok () w := by
    intro op' hop
    cases u <;> try (rcases hop with rfl | rfl <;> rfl)
    · cases v <;> try (rcases hop with rfl | rfl <;> rfl)
      have := hi rfl rfl
      rcases hop with rfl | rfl <;> cases x <;> cases y <;> first | (cases this; done) | rfl
    · rename_i a
      cases v <;> try (rcases hop with rfl | rfl <;> rfl)
      rename_i b
      exact run_eqGuard_agg w op' t x y a b (ha ⟨a, rfl⟩)
  cases op <;> first | rfl | exact key _ (.inl rfl) | exact key _ (.inr rfl)
end
end Go.AE

/-
A symbolic executor: each operation that only looks.
-/
namespace Go.AE

def ROk (P : Program) (cx : Cx) (f : RD) (o : Oper) : Prop :=
  ∀ {φ : Ph} {e : Syms} {N : Nat} {nv : Env} {tm : TM} {A : Act} {h : Heap} {w : World} {v : AV},
    AR φ e N cx nv tm A → RV P.globals.size φ e h w → f.run nv tm h = some v → ∃ u, (execOp A.eval o).run P w = .ok (.value u) w ∧ VR φ e v u

section
variable {P : Program} {cx : Cx} {φ : Ph} {e : Syms} {N : Nat} {nv : Env} {tm : TM} {A : Act} {h : Heap} {nx : Nat} {w : World}

theorem run_v {s : Sem Value} {u : Value} {w w' : World} (h : s.run P w = .ok u w') : (do pure (Next.value (← s)) : Sem Next).run P w = .ok (.value u) w' := by simp [h]

variable (hG : cx.G ≤ P.globals.size)
include hG

theorem op_ok (hA : AR φ e N cx nv tm A) (hR : RV P.globals.size φ e h w) {x : Operand} {v : AV} (hv : (cO cx x).run nv tm = some v) : VR φ e v (A.eval x) :=
  cO_ok hA (fun g hg => hR.gl g (Nat.lt_of_lt_of_le hg hG)) hv
theorem opL_ok (hA : AR φ e N cx nv tm A) (hR : RV P.globals.size φ e h w) {l : List Operand} {r : List AV} (hv : evL (cOs cx l) nv tm = some r) : VRL φ e r (l.map A.eval) :=
  evL_ok hA (fun g hg => hR.gl g (Nat.lt_of_lt_of_le hg hG)) hv

omit hG in
theorem rNo_ok (o : Oper) : ROk P cx rNo o := by
  intro φ e N nv tm A h w v _ _ hv; cases hv

theorem rMove_ok {o : Oper} {x : Operand} (ho : o.op = .move x ∨ o.op = .assign x) : ROk P cx (rMove (cO cx x)) o := by
  intro φ e N nv tm A h w v hA hR hv
  refine ⟨A.eval x, ?_, op_ok hG hA hR hv⟩
  rcases ho with ho | ho <;> simp only [execOp, ho] <;> rfl

theorem rPick_ok {o : Oper} {c a b : Operand} (ho : o.op = .pick c a b) : ROk P cx (rPick (cO cx c) (cO cx a) (cO cx b)) o := by
  intro φ e N nv tm A h w v hA hR hv
  obtain ⟨t, ht, h1⟩ := ob_some (x := (cO cx c).run nv tm) hv
  obtain ⟨q, hq, h2⟩ := onBool_some h1
  subst hq
  have hc := (op_ok hG hA hR ht).inv_bool
  cases q with
  | true => exact ⟨A.eval a, by simp only [execOp, ho]; simp [asBool, hc], op_ok hG hA hR h2⟩
  | false => exact ⟨A.eval b, by simp only [execOp, ho]; simp [asBool, hc], op_ok hG hA hR h2⟩

theorem rLoad_ok {o : Oper} {t : TypeId} {a : Operand} (ho : o.op = .load t a) : ROk P cx (rLoad (partK P t) (cO cx a)) o := by
  intro φ e N nv tm A h w v hA hR hv
  obtain ⟨p, hp, h1⟩ := ob_some (x := (cO cx a).run nv tm) hv
  obtain ⟨b, off, hq, h2⟩ := onPtr_some h1
  subst hq
  obtain ⟨L, hL, he⟩ := (op_ok hG hA hR hp).inv_ptr
  obtain ⟨u, hu, hr⟩ := loadB_ok hR hL h2
  exact ⟨u, by simp only [execOp, ho]; exact run_v (by rw [he]; simpa [Instr.loadAt, Instr.sureAddr] using hu), hr⟩

theorem rNil_ok {o : Oper} {x : Operand} (ho : o.op = .nilCheck x) : ROk P cx (rNil (cO cx x)) o := by
  intro φ e N nv tm A h w v hA hR hv
  obtain ⟨p, hp, h1⟩ := ob_some (x := (cO cx x).run nv tm) hv
  have hx := op_ok hG hA hR hp
  refine ⟨A.eval x, ?_, ?_⟩
  · unfold rNilV at h1
    split at h1
    · obtain ⟨L, hL, he⟩ := hx.inv_ptr
      simp only [execOp, ho, he]; rfl
    · obtain ⟨y, he, _⟩ := hx.inv_iface
      simp only [execOp, ho, he]; rfl
    · obtain ⟨a, c, he, _⟩ := hx.inv_func
      simp only [execOp, ho, he]; rfl
    · cases h1
  · unfold rNilV at h1
    split at h1 <;> cases h1 <;> exact hx

theorem rShl_ok {o : Oper} {t yt : TypeId} {x y : Operand} (ho : o.op = .binOp .shl t x y yt) : ROk P cx (rShift intShl (cO cx x) (cO cx y)) o := by
  intro φ e N nv tm A h w v hA hR hv
  obtain ⟨p, hp, h1⟩ := ob_some (x := (cO cx x).run nv tm) hv
  obtain ⟨q, hq, h2⟩ := ob_some (x := (cO cx y).run nv tm) h1
  obtain ⟨k, m, hk, h3⟩ := onInt_some h2
  obtain ⟨j, s, hj, h4⟩ := onInt_some h3
  subst hk; subst hj
  obtain ⟨a, b, ha, hb, h5⟩ := natPair_some h4
  subst ha; subst hb
  cases h5
  have hx := (op_ok hG hA hR hp).inv_int
  have hy := (op_ok hG hA hR hq).inv_int
  refine ⟨.int k (k.wrap ((a : Int) * 2 ^ (min b k.bits))), ?_, ?_⟩
  · simp only [execOp, ho, hx, hy]
    refine run_v ?_
    simp [eqGuard_shl, binOp, Op.shift, show ¬ ((b : Int) < 0) by omega]
  · rw [wrapF_eq, capBits_eq]
    have : (Int.ofNat (Nat.mul a (Nat.pow 2 (min b k.bits)))) = (a : Int) * 2 ^ (min b k.bits) := by
      show ((a * 2 ^ (min b k.bits) : Nat) : Int) = _
      simp
    rw [this]
    exact .int _ _

theorem rShr_ok {o : Oper} {t yt : TypeId} {x y : Operand} (ho : o.op = .binOp .shr t x y yt) : ROk P cx (rShift intShr (cO cx x) (cO cx y)) o := by
  intro φ e N nv tm A h w v hA hR hv
  obtain ⟨p, hp, h1⟩ := ob_some (x := (cO cx x).run nv tm) hv
  obtain ⟨q, hq, h2⟩ := ob_some (x := (cO cx y).run nv tm) h1
  obtain ⟨k, m, hk, h3⟩ := onInt_some h2
  obtain ⟨j, s, hj, h4⟩ := onInt_some h3
  subst hk; subst hj
  obtain ⟨a, b, ha, hb, h5⟩ := natPair_some h4
  subst ha; subst hb
  cases h5
  have hx := (op_ok hG hA hR hp).inv_int
  have hy := (op_ok hG hA hR hq).inv_int
  refine ⟨.int k ((a : Int).fdiv (2 ^ (min b k.bits))), ?_, ?_⟩
  · simp only [execOp, ho, hx, hy]
    refine run_v ?_
    simp [eqGuard_shr, binOp, Op.shift, show ¬ ((b : Int) < 0) by omega]
  · rw [capBits_eq]
    have : (Int.ofNat (Nat.div a (Nat.pow 2 (min b k.bits)))) = (a : Int).fdiv (2 ^ (min b k.bits)) := by
      rw [Int.fdiv_eq_ediv_of_nonneg _ (Int.pow_nonneg (by decide))]
      show ((a / 2 ^ (min b k.bits) : Nat) : Int) = _
      simp
    rw [this]
    exact .int _ _

omit hG in
theorem binV_ok {op : BinOp} {t : TypeId} {gi ga : Bool} {a b v : AV} {x y : Value} (hv : binV op (eqT P 8 t) gi ga b a = some v) (hx : VR φ e a x) (hy : VR φ e b y)
    (hop : op ≠ .shl ∧ op ≠ .shr) (w : World) :
    (x = .nilIface → gi = true) ∧ ((∃ l, x = .agg l) → ga = true) ∧ ∃ u, (binOp op t x y).run P w = .ok u w ∧ VR φ e v u := by
  cases hx with
  | int k n => exact ⟨(fun h => by cases h), (fun ⟨l, h⟩ => by cases h), binInt_ok hv hy t hop w⟩
  | str n z s hs => exact ⟨(fun h => by cases h), (fun ⟨l, h⟩ => by cases h), binStr_ok hv hs hy t w⟩
  | nilIface =>
    have := binEq_ok hv .nilIface hy rfl w
    exact ⟨fun _ => this.1, (fun ⟨l, h⟩ => by cases h), this.2⟩
  | agg cs us h =>
    have := binEq_ok hv (.agg cs us h) hy rfl w
    exact ⟨(fun h => by cases h), fun _ => this.1, this.2⟩
  | sym i => cases hv
  | tuple vs us h => cases hv
  | bool p => exact ⟨(fun h => by cases h), (fun ⟨l, h⟩ => by cases h), (binEq_ok (P := P) (φ := φ) (e := e) (op := op) (t := t) (g := true) (b := b) (v := v) (by exact hv) (.bool p) hy rfl w).2⟩
  | ptr p q L h => exact ⟨(fun h => by cases h), (fun ⟨l, h⟩ => by cases h), (binEq_ok (P := P) (φ := φ) (e := e) (op := op) (t := t) (g := true) (b := b) (v := v) (by exact hv) (.ptr p q L h) hy rfl w).2⟩
  | nilptr => exact ⟨(fun h => by cases h), (fun ⟨l, h⟩ => by cases h), (binEq_ok (P := P) (φ := φ) (e := e) (op := op) (t := t) (g := true) (b := b) (v := v) (by exact hv) (.nilptr) hy rfl w).2⟩
  | slice p q len cap sz L h hl hs => exact ⟨(fun h => by cases h), (fun ⟨l, h⟩ => by cases h), (binEq_ok (P := P) (φ := φ) (e := e) (op := op) (t := t) (g := true) (b := b) (v := v) (by exact hv) (.slice p q len cap sz L h hl hs) hy rfl w).2⟩
  | sliceU p q len cap sz L h hl hs => exact ⟨(fun h => by cases h), (fun ⟨l, h⟩ => by cases h), (binEq_ok (P := P) (φ := φ) (e := e) (op := op) (t := t) (g := true) (b := b) (v := v) (by exact hv) (.sliceU p q len cap sz L h hl hs) hy rfl w).2⟩
  | sliceE p q sz a hb6 => exact ⟨(fun h => by cases h), (fun ⟨l, h⟩ => by cases h), (binEq_ok (P := P) (φ := φ) (e := e) (op := op) (t := t) (g := true) (b := b) (v := v) (by exact hv) (.sliceE p q sz a hb6) hy rfl w).2⟩
  | nilslice => exact ⟨(fun h => by cases h), (fun ⟨l, h⟩ => by cases h), (binEq_ok (P := P) (φ := φ) (e := e) (op := op) (t := t) (g := true) (b := b) (v := v) (by exact hv) (.nilslice) hy rfl w).2⟩
  | map r L h => exact ⟨(fun h => by cases h), (fun ⟨l, h⟩ => by cases h), (binEq_ok (P := P) (φ := φ) (e := e) (op := op) (t := t) (g := true) (b := b) (v := v) (by exact hv) (.map r L h) hy rfl w).2⟩
  | nilmap => exact ⟨(fun h => by cases h), (fun ⟨l, h⟩ => by cases h), (binEq_ok (P := P) (φ := φ) (e := e) (op := op) (t := t) (g := true) (b := b) (v := v) (by exact hv) (.nilmap) hy rfl w).2⟩
  | func f a c A C ha hc => exact ⟨(fun h => by cases h), (fun ⟨l, h⟩ => by cases h), (binEq_ok (P := P) (φ := φ) (e := e) (op := op) (t := t) (g := true) (b := b) (v := v) (by exact hv) (.func f a c A C ha hc) hy rfl w).2⟩
  | nilFunc => exact ⟨(fun h => by cases h), (fun ⟨l, h⟩ => by cases h), (binEq_ok (P := P) (φ := φ) (e := e) (op := op) (t := t) (g := true) (b := b) (v := v) (by exact hv) (.nilFunc) hy rfl w).2⟩
  | iface ty z u h => exact ⟨(fun h => by cases h), (fun ⟨l, h⟩ => by cases h), (binEq_ok (P := P) (φ := φ) (e := e) (op := op) (t := t) (g := true) (b := b) (v := v) (by exact hv) (.iface ty z u h) hy rfl w).2⟩

theorem rBin_ok {o : Oper} {op : BinOp} {t yt : TypeId} {x y : Operand} (ho : o.op = .binOp op t x y yt) (hop : op ≠ .shl ∧ op ≠ .shr) :
    ROk P cx (rBin op (eqT P 8 t) (isConstO x || isConstO y) (!(P.eqGuardType P.depth t)) (cO cx x) (cO cx y)) o := by
  intro φ e N nv tm A h w v hA hR hv
  obtain ⟨a, ha, h1⟩ := ob_some (x := (cO cx x).run nv tm) hv
  obtain ⟨b, hb, h2⟩ := ob_some (x := (cO cx y).run nv tm) h1
  obtain ⟨g1, g2, u, hu, hr⟩ := binV_ok h2 (op_ok hG hA hR ha) (op_ok hG hA hR hb) hop w
  refine ⟨u, ?_, hr⟩
  have hg : (eqGuard op t x y (A.eval x) (A.eval y)).run P w = .ok () w := eqGuard_ok (fun e1 _ => g1 e1) (fun e1 => by simpa using g2 e1) w
  simp only [execOp, ho]
  refine run_v ?_
  simp [hg, hu]
theorem cBin_ok {o : Oper} {op : BinOp} {t yt : TypeId} {x y : Operand} (ho : o.op = .binOp op t x y yt) : ROk P cx (cBin P cx op t x y) o := by
  cases op <;> first
    | exact rShl_ok hG ho
    | exact rShr_ok hG ho
    | exact rBin_ok hG ho ⟨(by intro h; cases h), (by intro h; cases h)⟩

theorem rUn_ok {o : Oper} {op : UnOp} {t : TypeId} {x : Operand} (ho : o.op = .unOp op t x) : ROk P cx (rUn op (cO cx x)) o := by
  intro φ e N nv tm A h w v hA hR hv
  cases op <;> try (cases hv; done)
  · obtain ⟨a, ha, h1⟩ := ob_some (x := (cO cx x).run nv tm) hv
    obtain ⟨k, n, hk, h2⟩ := onInt_some h1
    subst hk; cases h2
    have hx := (op_ok hG hA hR ha).inv_int
    refine ⟨.int k (k.wrap (0 - n)), by simp only [execOp, ho, hx]; exact run_v (by simp [Op.unary, Op.intArith]), ?_⟩
    rw [wrapF_eq, subI_eq]
    exact .int _ _
  · obtain ⟨a, ha, h1⟩ := ob_some (x := (cO cx x).run nv tm) hv
    obtain ⟨b, hb, h2⟩ := onBool_some h1
    subst hb; cases h2
    have hx := (op_ok hG hA hR ha).inv_bool
    refine ⟨.bool (!b), by simp only [execOp, ho, hx]; exact run_v (by simp [Op.unary]), ?_⟩
    rw [notB_eq]
    exact .bool _
end
end Go.AE

/-
A symbolic executor: each operation that only looks (conversions, interfaces, slices, addresses).
-/
namespace Go.AE

section
variable {P : Program} {cx : Cx} {φ : Ph} {e : Syms} {N : Nat} {nv : Env} {tm : TM} {A : Act} {h : Heap} {nx : Nat} {w : World}

theorem add_plain (b o n : Nat) : (⟨b, o, none⟩ : Addr).add n = ⟨b, o + n, none⟩ := by unfold Addr.add; split <;> simp_all

/-- the cells of a live row -/
theorem row_cells {G : Nat} (hR : RV G φ e h w) {b : Nat} {L : Loc} {cs : List AV} (hL : φ b = some L) (hb : hget h b = some (.cells cs)) :
    L.O + cs.length ≤ L.S ∧ ∀ i v, cs[i]? = some v → ∃ u, w.cell? ⟨L.B, L.O + i, none⟩ = some u ∧ VR φ e v u := by
  have hB := hR.read b _ L hL hb
  obtain ⟨c, t, lo, hi, h1, h2, h3, h4, h5⟩ := hB
  refine ⟨h3, fun i v hv => ?_⟩
  obtain ⟨u, hu, hr⟩ := h5 i v hv
  exact ⟨u, by simp [World.cell?, h1, hu], hr⟩

/-! bytes -/
theorem packA_some : ∀ {l : List AV} {x : Nat}, packA l = some x → ∃ ns : List Nat, l = ns.map (fun n => AV.int .u8 (.ofNat n)) ∧ (∀ n ∈ ns, n < 256) ∧ unpack l.length x = ns.map UInt8.ofNat := by
  intro l
  induction l with
  | nil => intro x hx; cases hx; exact ⟨[], rfl, by simp, rfl⟩
  | cons v l ih =>
    intro x hx
    change byteOf1 v (fun n => ob (packA l) fun x => some (Nat.add n (Nat.mul 256 x))) = some x at hx
    obtain ⟨k, n, hk, h1⟩ := onInt_some hx
    obtain ⟨h2, h3⟩ := guardB_some h1
    obtain ⟨m, hm, h4⟩ := onNatI_some h3
    obtain ⟨h5, h6⟩ := guardB_some h4
    obtain ⟨y, hy, h7⟩ := ob_some (x := packA l) h6
    cases h7
    have hk8 : k = .u8 := by
      have := natBeq h2
      cases k <;> first | rfl | cases this
    subst hk8; subst hm; subst hk
    have hlt := natBlt h5
    obtain ⟨ns, rfl, hall, hun⟩ := ih hy
    refine ⟨m :: ns, rfl, by simpa using ⟨hlt, hall⟩, ?_⟩
    rw [List.length_cons, unpack_succ]
    have e1 : (Nat.add m (Nat.mul 256 y)) % 256 = m := by show (m + 256 * y) % 256 = m; omega
    have e2 : (Nat.add m (Nat.mul 256 y)) / 256 = y := by show (m + 256 * y) / 256 = y; omega
    rw [e1, e2, hun]
    rfl

theorem VR.inv_nilslice {u : Value} (h : VR φ e .nilslice u) : u = .slice none 0 0 := by cases h; rfl
theorem VR.inv_slice {b o len sz : Nat} {cap : Option Nat} {u : Value} (h : VR φ e (.slice b o len cap sz) u) :
    (∃ L c, φ b = some L ∧ len ≤ c ∧ L.O + o + c * sz ≤ L.S ∧ u = .slice (some ⟨L.B, L.O + o, none⟩) len c ∧ (cap = some c ∨ cap = none)) ∨
    (cap = none ∧ len = 0 ∧ ∃ a, u = .slice (some a) 0 0) := by
  cases h with
  | slice _ _ _ c _ L hL h1 h2 => exact .inl ⟨L, c, hL, h1, h2, rfl, .inl rfl⟩
  | sliceU _ _ _ c _ L hL h1 h2 => exact .inl ⟨L, c, hL, h1, h2, rfl, .inr rfl⟩
  | sliceE _ _ _ a _ => exact .inr ⟨rfl, rfl, a, rfl⟩

theorem VR.slice_lt {b o len sz : Nat} {cap : Option Nat} {u : Value} (h : VR φ e (.slice b o len cap sz) u) : (∃ L, φ b = some L) ∨ HOk b := by
  cases h with
  | slice _ _ _ c _ L hL h1 h2 => exact .inl ⟨L, hL⟩
  | sliceU _ _ _ c _ L hL h1 h2 => exact .inl ⟨L, hL⟩
  | sliceE _ _ _ a hb => exact .inr hb
theorem VR.slice_in {G : Nat} (hR : RV G φ e h w) {b o len sz : Nat} {cap : Option Nat} {u : Value} (hv : VR φ e (.slice b o len cap sz) u) : HOk b := by
  rcases hv.slice_lt with ⟨L, hL⟩ | hb
  · exact hR.dom b L hL
  · exact hb

theorem VR.func' {f : FuncId} {a c : List AV} {A C : Array Value} (ha : VRL φ e a A.toList) (hc : VRL φ e c C.toList) : VR φ e (.func f a c) (.func (.func f) A C) := by
  have := VR.func (φ := φ) (e := e) f a c A.toList C.toList ha hc
  simpa using this

def natInts (ns : List Nat) : List Int := ns.map fun (n : Nat) => (n : Int)

theorem convBytes_ok {G : Nat} (hR : RV G φ e h w) {a v : AV} {x : Value} (hv : convBytes h a = some v) (hx : VR φ e a x) {s d el : TypeId}
    (hs : P.underlying s = some (.slice el)) (he : P.underlying el = some (.int .u8)) (hd : P.underlying d = some .string) :
    ∃ u, (convert s d x).run P w = .ok u w ∧ VR φ e v u := by
  unfold convBytes at hv
  split at hv
  · cases hv
    rw [hx.inv_nilslice]
    exact ⟨_, run_convert_bytes_nil w s el hs he 0 0 d hd, .str 0 0 _ rfl⟩
  · rename_i b off len cap sz
    obtain ⟨blk, hb, h2⟩ := ob_some (x := hget h b) hv
    obtain ⟨cs, hcs, h3⟩ := onCells_some h2
    subst hcs
    obtain ⟨l, hl, h4⟩ := ob_some (x := ltake len (ldrop off cs)) h3
    obtain ⟨z, hz, h5⟩ := ob_some (x := packA l) h4
    cases h5
    rw [ldrop_eq] at hl
    obtain ⟨hlen, hl'⟩ := ltake_some len hl
    have hll : l.length = len := by rw [hl', List.length_take]; omega
    obtain ⟨ns, hns, hall, hun⟩ := packA_some hz
    have hnl : ns.length = len := by rw [← hll, hns, List.length_map]
    have hstr : (strOfNums (natInts ns)).data.toList = unpack len z := by
      rw [strOfNums_data, ← hll, hun, natInts, List.map_map]
      apply List.map_congr_left
      intro n _
      simp
    rcases hx.inv_slice with ⟨L, c, hL, h6, h7, rfl, _⟩ | ⟨rfl, h6, ad, rfl⟩
    · obtain ⟨_, hcell⟩ := row_cells hR hL hb
      refine ⟨.string (strOfNums (natInts ns)), ?_, .str _ _ _ hstr⟩
      refine run_convert_bytes_arg w s el hs he L.B (L.O + off) len c (natInts ns) (by simpa [natInts] using hnl) (fun i hi => ?_) d hd
      have hin : i < ns.length := by omega
      have h8 : l[i]? = some (.int .u8 (.ofNat (ns[i]'hin))) := by rw [hns]; simp [List.getElem?_eq_getElem hin]
      have h9 : cs[off + i]? = some (.int .u8 (.ofNat (ns[i]'hin))) := by
        have := h8
        rw [hl', List.getElem?_take, if_pos hi, List.getElem?_drop] at this
        exact this
      obtain ⟨u, hu, hr⟩ := hcell _ _ h9
      cases hr.inv_int
      rw [Nat.add_assoc, hu]
      simp [natInts, List.getD, List.getElem?_eq_getElem hin]
    · subst h6
      have hnil : ns = [] := List.eq_nil_of_length_eq_zero hnl
      subst hnil
      refine ⟨.string ByteArray.empty, ?_, .str _ _ _ hstr⟩
      rw [run_convert_bytes_string w s d el _ 0 0 hs he hd, run_bytesToString w ad 0 0 [] (by simp [Go.loadCells, Go.loadCellsFrom])]
      rfl
  · cases hv

variable (hG : cx.G ≤ P.globals.size)
include hG

theorem rConv_ok {o : Oper} {s d : TypeId} {x : Operand} (ho : o.op = .convert s d x) : ROk P cx (rConv P (P.underlying s) (P.underlying d) (cO cx x)) o := by
  intro φ e N nv tm A h w v hA hR hv
  have fin : ∀ {u : Value}, (convert s d (A.eval x)).run P w = .ok u w → VR φ e v u → ∃ u, (execOp A.eval o).run P w = .ok (.value u) w ∧ VR φ e v u := by
    intro u hu hr
    exact ⟨u, by simp only [execOp, ho]; exact run_v hu, hr⟩
  unfold rConv at hv
  split at hv
  · rename_i el hs hd
    unfold rConvBytes at hv
    split at hv
    · rename_i he
      obtain ⟨a, ha, h1⟩ := ob_some (x := (cO cx x).run nv tm) hv
      obtain ⟨u, hu, hr⟩ := convBytes_ok hR h1 (op_ok hG hA hR ha) hs he hd
      exact fin hu hr
    · cases hv
  · rename_i k0 k hs hd
    obtain ⟨a, ha, h1⟩ := ob_some (x := (cO cx x).run nv tm) hv
    obtain ⟨j, n, hj, h2⟩ := onInt_some h1
    subst hj; cases h2
    have hx := (op_ok hG hA hR ha).inv_int
    refine fin (u := .int k (k.wrap n)) ?_ (by rw [wrapF_eq]; exact .int _ _)
    rw [hx]
    simp [convert, run_underlying hs, run_underlying hd, Conv.intToInt]
  · rename_i hs hd
    obtain ⟨a, ha, h1⟩ := ob_some (x := (cO cx x).run nv tm) hv
    obtain ⟨n, z, hj, h2⟩ := onStr_some h1
    subst hj; cases h2
    obtain ⟨st, hx, hst⟩ := (op_ok hG hA hR ha).inv_str
    refine fin (u := .string st) ?_ (.str _ _ _ hst)
    rw [hx]
    simp [convert, run_underlying hs, run_underlying hd]
  · cases hv

theorem rIface_ok {o : Oper} {t : TypeId} {x : Operand} (ho : o.op = .makeInterface t x) : ROk P cx (rIface (P.underlying t) t (cO cx x)) o := by
  intro φ e N nv tm A h w v hA hR hv
  unfold rIface at hv
  split at hv
  · cases hv
  · rename_i d hd hu
    obtain ⟨a, ha, h1⟩ := ob_some (x := (cO cx x).run nv tm) hv
    cases h1
    refine ⟨.iface t (A.eval x), ?_, .iface _ _ _ (op_ok hG hA hR ha)⟩
    simp only [execOp, ho]
    refine run_v ?_
    cases d <;> first | (simp [Instr.makeInterface, run_underlying hu]; done) | exact absurd rfl (hd _)
  · cases hv

theorem rFunc_ok {o : Oper} {fn : Fn} {first cap : Array Operand} (ho : o.op = .makeFunc fn first cap) : ROk P cx (rFunc fn (cOs cx first.toList) (cOs cx cap.toList)) o := by
  intro φ e N nv tm A h w v hA hR hv
  unfold rFunc at hv
  split at hv
  · rename_i f
    obtain ⟨a, ha, h1⟩ := ob_some (x := evL (cOs cx first.toList) nv tm) hv
    obtain ⟨c, hc, h2⟩ := ob_some (x := evL (cOs cx cap.toList) nv tm) h1
    cases h2
    refine ⟨.func (.func f) (first.map A.eval) (cap.map A.eval), ?_, ?_⟩
    · simp only [execOp, ho]; exact run_v rfl
    · refine .func' ?_ ?_
      · rw [Array.toList_map]; exact opL_ok hG hA hR ha
      · rw [Array.toList_map]; exact opL_ok hG hA hR hc
  · cases hv

/-! slices -/
/-- what an index may be: not there, or a number -/
def idxIs (x : Option Value) (d n : Nat) : Prop := match x with
  | none => n = d
  | some v => ∃ k, v = .int k (n : Int)
theorem evOpt_ok (hA : AR φ e N cx nv tm A) (hR : RV P.globals.size φ e h w) {x : Option Operand} {d n : Nat} (hv : evOpt (cOpt cx x) d nv tm = some n) : idxIs (x.map A.eval) d n := by
  cases x with
  | none => cases hv; rfl
  | some x =>
    obtain ⟨v, hv1, h1⟩ := ob_some (x := (cO cx x).run nv tm) hv
    obtain ⟨j, m, hj, h2⟩ := onNat_some h1
    subst hj; cases h2
    exact ⟨j, (op_ok hG hA hR hv1).inv_int⟩
omit hG in
theorem bound_ok {x : Value} {n y : Nat} (hx : ∃ k, x = .int k (n : Int)) (hn : n ≤ y) (code : BoundsCode) : (Instr.sliceBound x y code).run P w = .ok n w := by
  obtain ⟨k, rfl⟩ := hx
  rw [run_sliceBound w k n y code (by omega) (by omega)]
  simp
omit hG in
theorem bounds_ok {b : Bool} {len cap : Nat} {lo hi mx : Option Value} {l u m : Nat} (hm : idxIs mx cap m) (hu : idxIs hi len u) (hl : idxIs lo 0 l) (h1 : l ≤ u) (h2 : u ≤ m) (h3 : m ≤ cap)
    (hmx : mx = none ∨ hi ≠ none) : (Instr.sliceBounds b len cap lo hi mx).run P w = .ok (l, u, m) w := by
  unfold Instr.sliceBounds
  cases mx with
  | none =>
    cases hm
    cases hi with
    | none => cases hu; cases lo with
      | none => cases hl; simp
      | some lo => simp [bound_ok hl h1]
    | some hi => cases lo with
      | none => cases hl; simp [bound_ok hu h2]
      | some lo => simp [bound_ok hl h1, bound_ok hu h2]
  | some mx =>
    cases hi with
    | none => rcases hmx with h | h <;> first | cases h | exact absurd rfl h
    | some hi => cases lo with
      | none => cases hl; simp [bound_ok hm h3, bound_ok hu h2]
      | some lo => simp [bound_ok hm h3, bound_ok hl h1, bound_ok hu h2]

omit hG in
theorem cutAddr {L : Loc} {o l sz m : Nat} : (if m = l then some (⟨L.B, L.O + o, none⟩ : Addr) else (some (⟨L.B, L.O + o, none⟩ : Addr)).map (·.add (l * sz))) = some ⟨L.B, L.O + offAt o l sz m, none⟩ := by
  unfold offAt
  by_cases h : m = l
  · subst h
    rw [if_pos rfl, Nat.beq_refl]
  · rw [if_neg h]
    have : Nat.beq m l = false := by cases hb : Nat.beq m l with
      | false => rfl
      | true => exact absurd (natBeq hb) h
    rw [this]
    show some ((⟨L.B, L.O + o, none⟩ : Addr).add (l * sz)) = some ⟨L.B, L.O + (o + l * sz), none⟩
    rw [add_plain, Nat.add_assoc]
omit hG in
theorem cutFits {L : Loc} {o l h m sz cap : Nat} (h1 : l ≤ h) (h2 : h ≤ m) (h3 : m ≤ cap) (hs : L.O + o + cap * sz ≤ L.S) : L.O + offAt o l sz m + (m - l) * sz ≤ L.S := by
  have hm : m * sz ≤ cap * sz := Nat.mul_le_mul_right _ h3
  unfold offAt
  cases hb : Nat.beq m l with
  | true =>
    have := natBeq hb
    subst this
    show L.O + o + (m - m) * sz ≤ L.S
    simp; omega
  | false =>
    show L.O + (o + l * sz) + (m - l) * sz ≤ L.S
    have : l * sz + (m - l) * sz = m * sz := by rw [← Nat.add_mul]; congr 1; omega
    omega

omit hG in
/-- a cut of a slice, by its bounds -/
theorem slice_run {t el : TypeId} {a : Option Addr} {len cap l u m sz : Nat} {lo hi mx : Option Value} (ht : P.underlying t = some (.slice el)) (hsz : szT P el = some sz)
    (hb : (Instr.sliceBounds true len cap lo hi mx).run P w = .ok (l, u, m) w) :
    (Instr.sliceAt t (.slice a len cap) lo hi mx).run P w = .ok (.slice (if m = l then a else a.map (·.add (l * sz))) (u - l) (m - l)) w := by
  have he : P.elem t = el := by simp [Program.elem, ht]
  rw [run_sliceAt_slice w t _ lo hi mx (by rw [he]; exact ht), run_slice_any w t a len cap (by rw [he]; exact ht), hb, he]
  simp [szT_some hsz, sliced]

omit hG in
theorem isSomeB_iff {α : Type} {x : Option α} : isSomeB x = true ↔ x ≠ none := by cases x <;> simp [isSomeB]
omit hG in
theorem badMx_false {hi mx : Option Operand} (h : badMx (cOpt cx hi) (cOpt cx mx) = false) : (mx.map A.eval) = none ∨ (hi.map A.eval) ≠ none := by
  cases mx with
  | none => exact .inl rfl
  | some m => cases hi with
    | none => cases h
    | some x => exact .inr (by simp)

theorem rSlice_ok {o : Oper} {t : TypeId} {x : Operand} {lo hi mx : Option Operand} (ho : o.op = .slice t x lo hi mx) :
    ROk P cx (rSlice P (P.underlying t) (cO cx x) (cOpt cx lo) (cOpt cx hi) (cOpt cx mx)) o := by
  intro φ e N nv tm A h w v hA hR hv
  have fin : ∀ {u : Value}, (Instr.sliceAt t (A.eval x) (lo.map A.eval) (hi.map A.eval) (mx.map A.eval)).run P w = .ok u w → VR φ e v u →
      ∃ u, (execOp A.eval o).run P w = .ok (.value u) w ∧ VR φ e v u := by
    intro u hu hr
    exact ⟨u, by simp only [execOp, ho]; exact run_v hu, hr⟩
  unfold rSlice at hv
  split at hv
  · -- a string
    rename_i ht
    cases mx with
    | some m => cases hv
    | none =>
      obtain ⟨a, ha, h1⟩ := ob_some (x := (cO cx x).run nv tm) hv
      obtain ⟨n, z, hz, h2⟩ := onStr_some h1
      subst hz
      obtain ⟨s, hx, hs⟩ := (op_ok hG hA hR ha).inv_str
      obtain ⟨u, hu, h3⟩ := ob_some (x := evOpt (cOpt cx hi) n nv tm) h2
      obtain ⟨l, hl, h4⟩ := ob_some (x := evOpt (cOpt cx lo) 0 nv tm) h3
      obtain ⟨h5, h6⟩ := guardB_some h4
      obtain ⟨h7, h8⟩ := andB_true h5
      have h7 := natBle h7
      have h8 := natBle h8
      cases h6
      have hn : s.size = n := by rw [← unpack_length n z, ← hs]; exact (Array.length_toList).symm
      have hb := bounds_ok (P := P) (w := w) (b := false) (len := n) (cap := n) (mx := none) (m := n) rfl (evOpt_ok hG hA hR hu) (evOpt_ok hG hA hR hl) h7 h8 (Nat.le_refl _) (.inl rfl)
      refine fin (u := .string (s.extract l u)) ?_ (.str _ _ _ ?_)
      · rw [hx, run_sliceAt_string w t _ _ _ _ ht]
        simp only [Option.map_none]
        unfold Instr.slice
        simp only [Sem.run_bind, run_underlying ht, Result.andThen_ok, Option.isSome_none, Bool.false_eq_true, if_false, hn, hb]
        rfl
      · rw [ByteArray.data_extract, Array.toList_extract, List.extract_eq_take_drop, hs]
        show _ = unpack (u - l) (strCut z l (u - l))
        rw [strCut_eq h7 h8, List.take_drop]
        congr 2
        omega
  · -- an array's address
    rename_i n el ht
    cases mx with
    | some m => cases hv
    | none =>
      cases hsz : szT P el with
      | none => rw [hsz] at hv; cases hv
      | some sz =>
        rw [hsz] at hv
        cases sz with
        | zero => cases hv
        | succ sz =>
          obtain ⟨a, ha, h1⟩ := ob_some (x := (cO cx x).run nv tm) hv
          obtain ⟨b, off, hz, h2⟩ := onPtr_some h1
          subst hz
          obtain ⟨L, hL, hx⟩ := (op_ok hG hA hR ha).inv_ptr
          obtain ⟨blk, hblk, h3⟩ := ob_some (x := hget h b) h2
          obtain ⟨cs, hcs, h4⟩ := onCells_some h3
          subst hcs
          obtain ⟨h5, h6⟩ := guardB_some h4
          obtain ⟨u, hu, h7⟩ := ob_some (x := evOpt (cOpt cx hi) n nv tm) h6
          obtain ⟨l, hl, h8⟩ := ob_some (x := evOpt (cOpt cx lo) 0 nv tm) h7
          obtain ⟨h9, h10⟩ := guardB_some h8
          obtain ⟨h11, h12⟩ := andB_true h9
          have h11 := natBle h11
          have h12 := natBle h12
          cases h10
          have h5 : off + n * (sz + 1) ≤ cs.length := by have := natBle h5; rw [llen_eq] at this; exact this
          obtain ⟨hfit, _⟩ := row_cells hR hL hblk
          have hb := bounds_ok (P := P) (w := w) (b := false) (len := n) (cap := n) (mx := none) (m := n) rfl (evOpt_ok hG hA hR hu) (evOpt_ok hG hA hR hl) h11 h12 (Nat.le_refl _) (.inl rfl)
          refine fin (u := .slice (some ⟨L.B, L.O + offAt off l (sz + 1) n, none⟩) (u - l) (n - l)) ?_ (.slice _ _ _ _ _ L hL (Nat.sub_le_sub_right h12 _) (cutFits h11 h12 (Nat.le_refl _) (by omega)))
          rw [hx]
          simp only [Option.map_none]
          unfold Instr.sliceAt
          simp only [Sem.run_bind, run_underlying ht, Result.andThen_ok, Instr.sureAddr, Sem.run_pure, hb, szT_some hsz]
          rw [← cutAddr]
          by_cases hnl : n = l <;> simp [hnl]
  · -- a slice
    rename_i el ht
    cases hbad : badMx (cOpt cx hi) (cOpt cx mx) with
    | true => rw [hbad] at hv; cases hv
    | false =>
      rw [hbad] at hv
      have hmx := badMx_false (A := A) hbad
      cases hsz : szT P el with
      | none => rw [hsz] at hv; cases hv
      | some sz =>
        rw [hsz] at hv
        cases sz with
        | zero => cases hv
        | succ sz =>
          obtain ⟨a, ha, h1⟩ := ob_some (x := (cO cx x).run nv tm) hv
          have hx := op_ok hG hA hR ha
          change cutSlice (sz + 1) (cOpt cx lo) (cOpt cx hi) (cOpt cx mx) nv tm a = some v at h1
          unfold cutSlice at h1
          split at h1
          · -- nil
            obtain ⟨m, hm, h2⟩ := ob_some (x := evOpt (cOpt cx mx) 0 nv tm) h1
            obtain ⟨u, hu, h3⟩ := ob_some (x := evOpt (cOpt cx hi) 0 nv tm) h2
            obtain ⟨l, hl, h4⟩ := ob_some (x := evOpt (cOpt cx lo) 0 nv tm) h3
            obtain ⟨h5, h6⟩ := guardB_some h4
            obtain ⟨h7, h8⟩ := andB_true h5
            obtain ⟨h9, h10⟩ := andB_true h8
            cases natBeq h7; cases natBeq h9; cases natBeq h10
            cases h6
            rw [hx.inv_nilslice] at fin
            refine fin (slice_run ht hsz (bounds_ok (evOpt_ok hG hA hR hm) (evOpt_ok hG hA hR hu) (evOpt_ok hG hA hR hl) (Nat.le_refl _) (Nat.le_refl _) (Nat.le_refl _) hmx)) ?_
            simp
            exact .nilslice
          · rename_i b off len cap z
            obtain ⟨hz, h2⟩ := guardB_some h1
            cases natBeq hz
            cases cap with
            | some cap =>
              change cutKnown (cOpt cx lo) (cOpt cx hi) (cOpt cx mx) nv tm b off len cap (sz + 1) = some v at h2
              obtain ⟨m, hm, h3⟩ := ob_some (x := evOpt (cOpt cx mx) cap nv tm) h2
              obtain ⟨u, hu, h4⟩ := ob_some (x := evOpt (cOpt cx hi) len nv tm) h3
              obtain ⟨l, hl, h5⟩ := ob_some (x := evOpt (cOpt cx lo) 0 nv tm) h4
              obtain ⟨h6, h7⟩ := guardB_some h5
              obtain ⟨h8, h9⟩ := andB_true h6
              obtain ⟨h10, h11⟩ := andB_true h9
              have h8 := natBle h8; have h10 := natBle h10; have h11 := natBle h11
              cases h7
              rcases hx.inv_slice with ⟨L, c, hL, h12, h13, he, hc⟩ | ⟨hc, _⟩
              · rcases hc with hc | hc <;> cases hc
                rw [he] at fin
                refine fin (slice_run ht hsz (bounds_ok (evOpt_ok hG hA hR hm) (evOpt_ok hG hA hR hu) (evOpt_ok hG hA hR hl) h8 h10 h11 hmx)) ?_
                rw [cutAddr]
                exact .slice _ _ _ _ _ L hL (Nat.sub_le_sub_right h10 _) (cutFits h8 h10 h11 h13)
              · cases hc
            | none =>
              cases mx with
              | none =>
                change cutOpen (cOpt cx lo) (cOpt cx hi) nv tm b off len (sz + 1) = some v at h2
                obtain ⟨u, hu, h4⟩ := ob_some (x := evOpt (cOpt cx hi) len nv tm) h2
                obtain ⟨l, hl, h5⟩ := ob_some (x := evOpt (cOpt cx lo) 0 nv tm) h4
                obtain ⟨h6, h7⟩ := guardB_some h5
                obtain ⟨h8, h9⟩ := andB_true h6
                have h8 := natBle h8; have h9 := natBle h9
                cases h7
                rcases hx.inv_slice with ⟨L, c, hL, h12, h13, he, hc⟩ | ⟨_, hl0, ad, he⟩
                · rw [he] at fin
                  refine fin (slice_run ht hsz (bounds_ok (mx := none) (m := c) rfl (evOpt_ok hG hA hR hu) (evOpt_ok hG hA hR hl) h8 (by omega) (Nat.le_refl _) (.inl rfl))) ?_
                  by_cases hcl : c = l
                  · subst hcl
                    rw [if_pos rfl, show u - c = 0 by omega, Nat.sub_self]
                    show VR φ e (.slice b (Nat.add off (Nat.mul c (sz + 1))) (Nat.sub u c) none (sz + 1)) _
                    rw [show Nat.sub u c = 0 by show u - c = 0; omega]
                    exact .sliceE _ _ _ _ (hx.slice_in hR)
                  · rw [if_neg hcl]
                    have e1 : (some (⟨L.B, L.O + off, none⟩ : Addr)).map (·.add (l * (sz + 1))) = some ⟨L.B, L.O + (off + l * (sz + 1)), none⟩ := by
                      show some ((⟨L.B, L.O + off, none⟩ : Addr).add (l * (sz + 1))) = _
                      rw [add_plain, Nat.add_assoc]
                    rw [e1]
                    refine .sliceU b (off + l * (sz + 1)) (u - l) (c - l) (sz + 1) L hL (by omega) ?_
                    have : l * (sz + 1) + (c - l) * (sz + 1) = c * (sz + 1) := by rw [← Nat.add_mul]; congr 1; omega
                    omega
                · rw [he] at fin
                  subst hl0
                  have hu0 : u = 0 := by omega
                  have hll0 : l = 0 := by omega
                  subst hu0; subst hll0
                  refine fin (slice_run ht hsz (bounds_ok (mx := none) (m := 0) rfl (evOpt_ok hG hA hR hu) (evOpt_ok hG hA hR hl) (Nat.le_refl _) (Nat.le_refl _) (Nat.le_refl _) (.inl rfl))) ?_
                  simp
                  exact .sliceE _ _ _ _ (hx.slice_in hR)
              | some mx =>
                change cutShut (cOpt cx lo) (cOpt cx hi) (cOpt cx (some mx)) nv tm b off len (sz + 1) = some v at h2
                obtain ⟨m, hm, h3⟩ := ob_some (x := evOpt (cOpt cx (some mx)) len nv tm) h2
                obtain ⟨u, hu, h4⟩ := ob_some (x := evOpt (cOpt cx hi) len nv tm) h3
                obtain ⟨l, hl, h5⟩ := ob_some (x := evOpt (cOpt cx lo) 0 nv tm) h4
                obtain ⟨h6, h7⟩ := guardB_some h5
                obtain ⟨h14, h15⟩ := andB_true h6
                obtain ⟨h8, h9⟩ := andB_true h15
                obtain ⟨h10, h11⟩ := andB_true h9
                have h14 := natBlt h14; have h8 := natBle h8; have h10 := natBle h10; have h11 := natBle h11
                cases h7
                rcases hx.inv_slice with ⟨L, c, hL, h12, h13, he, hc⟩ | ⟨_, hl0, ad, he⟩
                · rw [he] at fin
                  have hm' : idxIs (some (A.eval mx)) c m := evOpt_ok hG hA hR (x := some mx) (d := len) hm
                  refine fin (slice_run ht hsz (bounds_ok hm' (evOpt_ok hG hA hR hu) (evOpt_ok hG hA hR hl) h8 h10 (by omega) hmx)) ?_
                  rw [cutAddr]
                  exact .slice _ _ _ _ _ L hL (Nat.sub_le_sub_right h10 _) (cutFits h8 h10 (by omega) h13)
                · omega
          · cases h1
  · cases hv
end
end Go.AE

/-
A symbolic executor: each operation that only looks (fields, elements, maps, assertions, what is built).
-/
namespace Go.AE

section
variable {P : Program} {cx : Cx} {φ : Ph} {e : Syms} {N : Nat} {nv : Env} {tm : TM} {A : Act} {h : Heap} {nx : Nat} {w : World}

/-! fields -/
theorem withField_some {d : Option TypeDesc} {f : Nat} {k : Field → RD} {v : AV} (hv : (withField d f k).run nv tm h = some v) :
    ∃ fs fd, d = some (.struct fs) ∧ fs[f]? = some fd ∧ (k fd).run nv tm h = some v := by
  unfold withField at hv
  split at hv
  · rename_i fs
    split at hv
    · rename_i fd hf
      rw [lget_eq] at hf
      exact ⟨fs, fd, rfl, by rw [← Array.getElem?_toList]; exact hf, hv⟩
    · cases hv
  · cases hv
theorem withSz_some {s : Option Nat} {k : Nat → RD} {v : AV} (hv : (withSz s k).run nv tm h = some v) : ∃ n, s = some (n + 1) ∧ (k (n + 1)).run nv tm h = some v := by
  unfold withSz at hv
  split at hv
  · exact ⟨_, rfl, hv⟩
  · cases hv
theorem withZero_some {z : Option AV} {k : AV → RD} {v : AV} (hv : (withZero z k).run nv tm h = some v) : ∃ a, z = some a ∧ (k a).run nv tm h = some v := by
  unfold withZero at hv
  split at hv
  · exact ⟨_, rfl, hv⟩
  · cases hv

variable (hG : cx.G ≤ P.globals.size)
include hG

theorem rFieldAddr_ok {o : Oper} {t : TypeId} {x : Operand} {f : Nat} (ho : o.op = .fieldAddr t x f) :
    ROk P cx (withField (P.underlying t) f fun fd => fieldAddrOf (szT P fd.type) fd.offset (cO cx x)) o := by
  intro φ e N nv tm A h w v hA hR hv
  obtain ⟨fs, fd, hu, hf, h1⟩ := withField_some hv
  unfold fieldAddrOf at h1
  split at h1
  · rename_i n hs
    obtain ⟨a, ha, h2⟩ := ob_some (x := (cO cx x).run nv tm) h1
    obtain ⟨b, off, hq, h3⟩ := onPtr_some h2
    subst hq; cases h3
    obtain ⟨L, hL, hx⟩ := (op_ok hG hA hR ha).inv_ptr
    refine ⟨.pointer (some ⟨L.B, L.O + (off + fd.offset), none⟩), ?_, .ptr _ _ L hL⟩
    simp only [execOp, ho]
    refine run_v ?_
    rw [hx]
    simp [Instr.fieldAt, run_underlying hu, hf, Instr.sureAddr, fieldPlace, szT_some hs, add_plain, Nat.add_assoc]
  · cases h1

theorem rField_ok {o : Oper} {t : TypeId} {x : Operand} {f : Nat} (ho : o.op = .field t x f) :
    ROk P cx (withField (P.underlying t) f fun fd => rField (partK P fd.type) fd.offset (cO cx x)) o := by
  intro φ e N nv tm A h w v hA hR hv
  obtain ⟨fs, fd, hu, hf, h1⟩ := withField_some hv
  obtain ⟨a, ha, h2⟩ := ob_some (x := (cO cx x).run nv tm) h1
  obtain ⟨cs, hq, h3⟩ := onAgg_some h2
  subst hq
  obtain ⟨us, hx, hr⟩ := (op_ok hG hA hR ha).inv_agg
  obtain ⟨u, hu1, hr1⟩ := part_ok h3 hr w
  refine ⟨u, ?_, hr1⟩
  simp only [execOp, ho]
  refine run_v ?_
  rw [hx]
  simp [Instr.field, run_underlying hu, hf, asAgg, hu1]

/-! elements -/
theorem rIndexAddr_ok {o : Oper} {t : TypeId} {x i : Operand} (ho : o.op = .indexAddr t x i) : ROk P cx (rIndexAddr P (P.underlying t) (cO cx x) (cO cx i)) o := by
  intro φ e N nv tm A h w v hA hR hv
  unfold rIndexAddr at hv
  split at hv
  · rename_i n el hu
    obtain ⟨sz, hs, h1⟩ := withSz_some hv
    obtain ⟨a, ha, h2⟩ := ob_some (x := (cO cx x).run nv tm) h1
    obtain ⟨b, hb, h3⟩ := ob_some (x := (cO cx i).run nv tm) h2
    obtain ⟨k, j, hj, h4⟩ := onNat_some h3
    obtain ⟨c, off, hq, h5⟩ := onPtr_some h4
    subst hj; subst hq
    obtain ⟨h6, h7⟩ := guardB_some h5
    have h6 := natBlt h6
    cases h7
    obtain ⟨L, hL, hx⟩ := (op_ok hG hA hR ha).inv_ptr
    have hi := (op_ok hG hA hR hb).inv_int
    refine ⟨.pointer (some ⟨L.B, L.O + (off + j * (sz + 1)), none⟩), ?_, .ptr _ _ L hL⟩
    simp only [execOp, ho]
    refine run_v ?_
    rw [hx, hi]
    simp [Instr.indexAt, asIntOf, run_underlying hu, Instr.sureAddr, szT_some hs, add_plain, Nat.add_assoc, h6]
  · rename_i el hu
    obtain ⟨sz, hs, h1⟩ := withSz_some hv
    obtain ⟨a, ha, h2⟩ := ob_some (x := (cO cx x).run nv tm) h1
    obtain ⟨b, hb, h3⟩ := ob_some (x := (cO cx i).run nv tm) h2
    obtain ⟨k, j, hj, h4⟩ := onNat_some h3
    subst hj
    unfold idxSl at h4
    split at h4
    · rename_i c off len cap z
      obtain ⟨h5, h6⟩ := guardB_some h4
      obtain ⟨h7, h8⟩ := andB_true h5
      have h7 := natBlt h7
      cases natBeq h8
      cases h6
      have hi := (op_ok hG hA hR hb).inv_int
      rcases (op_ok hG hA hR ha).inv_slice with ⟨L, c', hL, h9, h10, hx, _⟩ | ⟨_, hl, _⟩
      · refine ⟨.pointer (some ⟨L.B, L.O + (off + j * (sz + 1)), none⟩), ?_, .ptr _ _ L hL⟩
        simp only [execOp, ho]
        refine run_v ?_
        rw [hx, hi]
        simp [Instr.indexAt, asIntOf, run_underlying hu, szT_some hs, add_plain, Nat.add_assoc, h7]
      · omega
    · cases h4
  · cases hv

theorem rIndex_ok {o : Oper} {t : TypeId} {x i : Operand} (ho : o.op = .index t x i) : ROk P cx (rIndex P (P.underlying t) (cO cx x) (cO cx i)) o := by
  intro φ e N nv tm A h w v hA hR hv
  unfold rIndex at hv
  split at hv
  · rename_i hu
    obtain ⟨a, ha, h2⟩ := ob_some (x := (cO cx x).run nv tm) hv
    obtain ⟨b, hb, h3⟩ := ob_some (x := (cO cx i).run nv tm) h2
    obtain ⟨k, j, hj, h4⟩ := onNat_some h3
    obtain ⟨n, z, hq, h5⟩ := onStr_some h4
    subst hj; subst hq
    obtain ⟨h6, h7⟩ := guardB_some h5
    have h6 := natBlt h6
    cases h7
    obtain ⟨s, hx, hs⟩ := (op_ok hG hA hR ha).inv_str
    have hi := (op_ok hG hA hR hb).inv_int
    refine ⟨.int .u8 (.ofNat (strAt z j)), ?_, .int _ _⟩
    have hg : s[j]? = some (UInt8.ofNat (strAt z j)) := by
      have h8 := unpack_get n z j h6
      rw [← hs, Array.getElem?_toList] at h8
      rw [← h8]
      have hlt : j < s.size := by
        show j < s.data.size
        rw [← Array.length_toList, hs, unpack_length]; exact h6
      rw [getElem?_pos s j hlt, getElem?_pos s.data j hlt]
      rfl
    have hlt : strAt z j < 256 := Nat.mod_lt _ (by decide)
    simp only [execOp, ho]
    refine run_v ?_
    rw [hx, hi]
    simp [Instr.index, asIntOf, run_underlying hu, hg]
    omega
  · rename_i n el hu
    obtain ⟨sz, hs, h1⟩ := withSz_some hv
    obtain ⟨a, ha, h2⟩ := ob_some (x := (cO cx x).run nv tm) h1
    obtain ⟨b, hb, h3⟩ := ob_some (x := (cO cx i).run nv tm) h2
    obtain ⟨k, j, hj, h4⟩ := onNat_some h3
    subst hj
    obtain ⟨h6, h7⟩ := guardB_some h4
    have h6 := natBlt h6
    obtain ⟨cs, hq, h8⟩ := onAgg_some h7
    subst hq
    obtain ⟨us, hx, hr⟩ := (op_ok hG hA hR ha).inv_agg
    have hi := (op_ok hG hA hR hb).inv_int
    obtain ⟨u, hu1, hr1⟩ := part_ok h8 hr w
    refine ⟨u, ?_, hr1⟩
    simp only [execOp, ho]
    refine run_v ?_
    rw [hx, hi]
    have : (part el us (j * (sz + 1))).run P w = .ok u w := hu1
    simp [Instr.index, asIntOf, run_underlying hu, szT_some hs, h6, this]
  · cases hv
end
end Go.AE

/-
A symbolic executor: maps, assertions, lengths, what is built.
-/
namespace Go.AE

section
variable {P : Program} {cx : Cx} {φ : Ph} {e : Syms} {N : Nat} {nv : Env} {tm : TM} {A : Act} {h : Heap} {nx : Nat} {w : World}

/-! maps -/
theorem checkKey_fields (em : Bool) (ih : TypeId → EQ) (d : Nat) (hih : ∀ (t : TypeId) (a : AV) (x : Value) (w : World), keyT P d t = true → (ih t).run a a = some true → VR φ e a x →
      ∀ n, d ≤ n → (Instr.checkKey em n t x).run P w = .ok () w) (n : Nat) (hn : d ≤ n) :
    ∀ (fs : List Field) (cs : List AV) (us : Array Value) (w : World), (fs.all fun f => keyT P d f.type) = true → eqFields P ih fs cs cs = some true → VRL φ e cs us.toList →
      (forIn fs PUnit.unit fun f _ => (if f.name ≠ "_" then do
          let v ← part f.type us f.offset
          Instr.checkKey em n f.type v
          pure (ForInStep.yield PUnit.unit)
        else pure (ForInStep.yield PUnit.unit) : Sem (ForInStep PUnit))).run P w = .ok PUnit.unit w := by
  intro fs
  induction fs with
  | nil => intro cs us w _ _ _; simp
  | cons f fs ihf =>
    intro cs us w hk h hx
    rw [List.all_cons, Bool.and_eq_true] at hk
    change sel (decide (f.name = "_")) (eqFields P ih fs) (eqField (ih f.type) (partK P f.type) f.offset (eqFields P ih fs)) cs cs = some true at h
    rw [List.forIn_cons]
    by_cases hnm : f.name = "_"
    · rw [show decide (f.name = "_") = true by simp [hnm]] at h
      simp only [hnm, ne_eq, not_true, if_false, Sem.run_bind, Sem.run_pure, Result.andThen_ok]
      exact ihf cs us w hk.2 h hx
    · rw [show decide (f.name = "_") = false by simp [hnm]] at h
      obtain ⟨u, hu, h1⟩ := ob_some (x := (partK P f.type).run cs f.offset) h
      obtain ⟨v, hv, h2⟩ := ob_some (x := (partK P f.type).run cs f.offset) h1
      rw [hu] at hv; cases hv
      obtain ⟨q, hq, h3⟩ := ob_some (x := (ih f.type).run u u) h2
      cases q with
      | false => cases h3
      | true =>
        obtain ⟨x, hx1, hx2⟩ := part_ok hu hx w
        have hc := hih f.type u x w hk.1 hq hx2 n hn
        simp only [hnm, ne_eq, not_false_eq_true, if_true, Sem.run_bind, Sem.run_pure, Result.andThen_ok, hx1, hc]
        exact ihf cs us w hk.2 h3 hx

theorem checkKey_ok (em : Bool) (d : Nat) : ∀ (m : Nat) (t : TypeId) (a : AV) (x : Value) (w : World), keyT P d t = true → (eqT P m t).run a a = some true → VR φ e a x →
    ∀ n, d ≤ n → (Instr.checkKey em n t x).run P w = .ok () w := by
  induction d with
  | zero => intro m t a x w hk; cases hk
  | succ d ih =>
    intro m t a x w hk he hx n hn
    obtain ⟨n, rfl⟩ : ∃ k, n = k + 1 := ⟨n - 1, by omega⟩
    cases m with
    | zero => cases he
    | succ m =>
      change keyD (keyT P d) (P.underlying t) = true at hk
      change (eqOfO P (eqT P m) t (P.underlying t)).run a a = some true at he
      cases hu : P.underlying t with
      | none => rw [hu] at hk; cases hk
      | some td =>
        rw [hu] at hk he
        cases td <;> try (cases hk; done)
        · simp only [Instr.checkKey, Sem.run_bind, run_underlying hu, Result.andThen_ok]; rfl
        · simp only [Instr.checkKey, Sem.run_bind, run_underlying hu, Result.andThen_ok]; rfl
        · simp only [Instr.checkKey, Sem.run_bind, run_underlying hu, Result.andThen_ok]; rfl
        · rename_i fs
          change (sel (P.stoodInHeld t) eqNone ⟨eqStructF P (eqT P m) fs.toList⟩ : EQ).run a a = some true at he
          cases hs : P.stoodInHeld t with
          | true => rw [hs] at he; cases he
          | false =>
            rw [hs] at he
            obtain ⟨cs, hcs, he1⟩ := onAgg_some he
            subst hcs
            obtain ⟨cs', hcs', he2⟩ := onAgg_some he1
            cases hcs'
            obtain ⟨us, rfl, hx'⟩ := hx.inv_agg
            have := checkKey_fields em (eqT P m) d (fun t a x w h1 h2 h3 n h4 => ih m t a x w h1 h2 h3 n h4) n (by omega) fs.toList cs us w hk he2 hx'
            simp only [Instr.checkKey, Sem.run_bind, run_underlying hu, Result.andThen_ok]
            rw [← Array.forIn_toList]
            simp at this
            simp [this]

theorem byteBeq (s t : ByteArray) : (s == t) = (s.data == t.data) := by cases s; cases t; rfl

/-- what was found -/
inductive KR (φ : Ph) (e : Syms) : Option (Nat × AV) → Option (Nat × Value) → Prop where
  | none : KR φ e none none
  | some (i : Nat) (a : AV) (u : Value) (h : VR φ e a u) : KR φ e (some (i, a)) (some (i, u))

theorem sameNow_ok {m : Nat} {kt : TypeId} {td : TypeDesc} (hu : P.underlying kt = some td) {a b : AV} {r : Bool} {x y : Value} (h : (eqT P m kt).run a b = some r) (hx : VR φ e a x) (hy : VR φ e b y) :
    Instr.sameNow td x y = none ∨ Instr.sameNow td x y = some r := by
  cases m with
  | zero => cases h
  | succ m =>
    change (eqOfO P (eqT P m) kt (P.underlying kt)).run a b = some r at h
    rw [hu] at h
    cases td <;> try (exact .inl rfl)
    · obtain ⟨p, rfl, h⟩ := onBool_some h
      obtain ⟨q, rfl, h⟩ := onBool_some h
      cases h; cases hx; cases hy
      exact .inr rfl
    · obtain ⟨j, p, rfl, h⟩ := onInt_some h
      obtain ⟨j', q, rfl, h⟩ := onInt_some h
      obtain ⟨hk, h2⟩ := guardB_some h
      clear h
      cases beqK_eq hk
      cases h2; cases hx; cases hy
      right
      simp [Instr.sameNow, eqI_eq]
    · obtain ⟨n1, p, rfl, h⟩ := onStr_some h
      obtain ⟨n2, q, rfl, h⟩ := onStr_some h
      cases h
      obtain ⟨s, rfl, hs⟩ := hx.inv_str
      obtain ⟨s', rfl, hs'⟩ := hy.inv_str
      right
      simp only [Instr.sameNow, strEq_eq, ← hs, ← hs', byteBeq]
      congr 1
      rw [Bool.eq_iff_iff]
      simp only [beq_iff_eq]
      exact Array.toList_inj.symm

theorem findKey_ok {m : Nat} (hm : m ≤ Op.maxDepth) {kt : TypeId} {td : TypeDesc} (hu : P.underlying kt = some td) {k : AV} {x : Value} (hx : VR φ e k x) (w : World) :
    ∀ (es : List Ent) (i : Nat) (r : Option (Nat × AV)) (es' : List MapEntry), findKey (eqT P m kt) k es i = some r → EntR φ e es es' →
      ∃ r', KR φ e r r' ∧ (Instr.findAsking kt x es' i).run P w = .ok r' w ∧ (Instr.findNow td x es' i = none ∨ Instr.findNow td x es' i = some r') := by
  intro es
  induction es with
  | nil =>
    intro i r es' h hr
    cases h; cases hr
    exact ⟨none, .none, rfl, .inr rfl⟩
  | cons y es ih =>
    intro i r es' h hr
    cases hr with
    | cons _ _ y' r' hk hv hb t =>
      obtain ⟨q, hq, h1⟩ := ob_some (x := (eqT P m kt).run k y.key) h
      have he : (Op.equal kt x y'.key).run P w = .ok q w := eqT_ok m _ hm kt _ _ q _ _ w hq hx hk
      have hs := sameNow_ok hu hq hx hk
      cases q with
      | true =>
        cases h1
        refine ⟨some (i, y'.val), .some _ _ _ hv, by simp [Instr.findAsking, he], ?_⟩
        rcases hs with hs | hs <;> simp [Instr.findNow, hs]
      | false =>
        obtain ⟨r2, hr2, h2, h3⟩ := ih (i + 1) r _ h1 t
        refine ⟨r2, hr2, by simp [Instr.findAsking, he, h2], ?_⟩
        rcases hs with hs | hs
        · left; simp [Instr.findNow, hs]
        · simpa [Instr.findNow, hs] using h3

theorem findKey_run {m : Nat} (hm : m ≤ Op.maxDepth) {kt : TypeId} {td : TypeDesc} (hu : P.underlying kt = some td) {k : AV} {x : Value} (hx : VR φ e k x) (w : World)
    {es : List Ent} {r : Option (Nat × AV)} {es' : List MapEntry} (h : findKey (eqT P m kt) k es 0 = some r) (hr : EntR φ e es es') :
    ∃ r', KR φ e r r' ∧ (Instr.findKey kt x es').run P w = .ok r' w := by
  obtain ⟨r', h1, h2, h3⟩ := findKey_ok hm hu hx w es 0 r es' h hr
  refine ⟨r', h1, ?_⟩
  rcases h3 with h3 | h3 <;> simp [Instr.findKey, run_underlying hu, h3, h2]

theorem keyT_und {n : Nat} {kt : TypeId} (h : keyT P n kt = true) : ∃ td, P.underlying kt = some td := by
  cases n with
  | zero => cases h
  | succ n =>
    change keyD (keyT P n) (P.underlying kt) = true at h
    cases hu : P.underlying kt with
    | none => rw [hu] at h; cases h
    | some td => exact ⟨td, rfl⟩

theorem map_run {G : Nat} (hR : RV G φ e h w) {b : Nat} {L : Loc} {es : List Ent} {c : Nat} (hL : φ b = some L) (hb : hget h b = some (.map es c)) :
    ∃ es' : Array MapEntry, w.heap[L.B]? = some (.map es' c) ∧ EntR φ e es es'.toList := by
  have hB := hR.read b _ L hL hb
  exact hB

variable (hG : cx.G ≤ P.globals.size)
include hG

theorem rLookup_ok {o : Oper} {t : TypeId} {m k : Operand} {ok : Bool} (ho : o.op = .lookup t m k ok) : ROk P cx (rLookup P (P.underlying t) (cO cx m) (cO cx k) ok) o := by
  intro φ e N nv tm A h w v hA hR hv
  unfold rLookup at hv
  split at hv
  · rename_i kt et hu
    cases hkt : keyT P 4 kt with
    | false => rw [hkt] at hv; cases hv
    | true =>
      rw [hkt] at hv
      obtain ⟨z, hz, h1⟩ := withZero_some hv
      obtain ⟨a, ha, h2⟩ := ob_some (x := (cO cx m).run nv tm) h1
      obtain ⟨b, hb, h3⟩ := ob_some (x := (cO cx k).run nv tm) h2
      obtain ⟨es, hes, h4⟩ := ob_some (x := entsOf h a) h3
      obtain ⟨q, hq, h5⟩ := ob_some (x := (eqT P 8 kt).run b b) h4
      obtain ⟨hq1, h6⟩ := guardB_some h5
      subst hq1
      obtain ⟨r, hr, h7⟩ := ob_some (x := findKey (eqT P 8 kt) b es 0) h6
      have hx := op_ok hG hA hR ha
      have hy := op_ok hG hA hR hb
      obtain ⟨zv, hzr, hzv⟩ := zeroA_some hz φ e
      obtain ⟨td, hud⟩ := keyT_und hkt
      -- the entries
      have hents : ∃ es' : Array MapEntry, EntR φ e es es'.toList ∧ ((A.eval m = .map none ∧ es' = #[]) ∨ ∃ r c, A.eval m = .map (some r) ∧ w.heap[r]? = some (.map es' c)) := by
        unfold entsOf at hes
        split at hes
        · cases hes
          refine ⟨#[], .nil, .inl ⟨?_, rfl⟩⟩
          generalize A.eval m = y at hx
          cases hx; rfl
        · obtain ⟨blk, hblk, h8⟩ := ob_some (x := hget h _) hes
          obtain ⟨es0, c, hbe, h9⟩ := onEnts_some h8
          subst hbe; cases h9
          obtain ⟨L, hL, hxe⟩ := hx.inv_map
          obtain ⟨es', hw, hre⟩ := map_run hR hL hblk
          exact ⟨es', hre, .inr ⟨L.B, c, hxe, hw⟩⟩
        · cases hes
      obtain ⟨es', hre, hform⟩ := hents
      obtain ⟨r', hkr, hfind⟩ := findKey_run (by decide) hud hy w hr hre
      have hck := checkKey_ok (P := P) es'.isEmpty 4 8 kt b (A.eval k) w hkt hq hy 10000 (by decide)
      have hgo : ∀ u, (Instr.lookup t (A.eval m) (A.eval k) ok).run P w = .ok u w → VR φ e v u → ∃ u, (execOp A.eval o).run P w = .ok (.value u) w ∧ VR φ e v u := by
        intro u h8 h9
        exact ⟨u, by simp only [execOp, ho]; exact run_v h8, h9⟩
      have hlk : ∀ u okk, (match r' with
            | some (_, v) => pure (v, true)
            | none => do pure (← zeroValue et, false) : Sem (Value × Bool)).run P w = .ok (u, okk) w → (Instr.lookup t (A.eval m) (A.eval k) ok).run P w = .ok (if ok then .tuple #[u, .bool okk] else u) w := by
        intro u okk h9
        rcases hform with ⟨hxe, rfl⟩ | ⟨rr, c, hxe, hw⟩
        · have hck : (Instr.checkKey true 10000 kt (A.eval k)).run P w = .ok () w := hck
          have hfind : (Instr.findKey kt (A.eval k) []).run P w = .ok r' w := hfind
          rw [hxe]
          cases r' <;> simp [Instr.lookup, run_underlying hu, hck, hfind] at h9 ⊢
          · cases hzz : (zeroValue et).run P w <;> simp [hzz, Result.andThen] at h9 ⊢
            rcases h9 with ⟨⟨rfl, rfl⟩, rfl⟩; simp
          · rcases h9 with ⟨rfl, rfl⟩; simp
        · rw [hxe]
          cases r' <;> simp [Instr.lookup, run_underlying hu, hck, hfind, MapKept.run_getObj_map hw] at h9 ⊢
          · cases hzz : (zeroValue et).run P w <;> simp [hzz, Result.andThen] at h9 ⊢
            rcases h9 with ⟨⟨rfl, rfl⟩, rfl⟩; simp
          · rcases h9 with ⟨rfl, rfl⟩; simp
      cases hkr with
      | none =>
        cases h7
        refine hgo (if ok then .tuple #[zv, .bool false] else zv) ?_ ?_
        · exact hlk _ _ (by simp [hzr w])
        · cases ok with
          | true => exact .tuple' (.two hzv (.bool _))
          | false => exact hzv
      | some i a u hru =>
        cases h7
        refine hgo (if ok then .tuple #[u, .bool true] else u) ?_ ?_
        · exact hlk _ _ (by simp)
        · cases ok with
          | true => exact .tuple' (.two hru (.bool _))
          | false => exact hru
  · cases hv

/-! assertions, parts of tuples -/
theorem rAssert_ok {o : Oper} {x : Operand} {s t : TypeId} {ok : Bool} (ho : o.op = .typeAssert x s t ok) : ROk P cx (rAssert P (P.underlying t) t ok (cO cx x)) o := by
  intro φ e N nv tm A h w v hA hR hv
  unfold rAssert at hv
  split at hv
  · cases hv
  · rename_i d hd hu
    obtain ⟨z, hz, h1⟩ := withZero_some hv
    obtain ⟨a, ha, h2⟩ := ob_some (x := (cO cx x).run nv tm) h1
    have hx := op_ok hG hA hR ha
    obtain ⟨zv, hzr, hzv⟩ := zeroA_some hz φ e
    have hgo : ∀ u, (Instr.typeAssert (A.eval x) s t ok).run P w = .ok u w → VR φ e v u → ∃ u, (execOp A.eval o).run P w = .ok (.value u) w ∧ VR φ e v u := by
      intro u h8 h9
      exact ⟨u, by simp only [execOp, ho]; exact run_v h8, h9⟩
    unfold assertV at h2
    split at h2
    · rename_i ty y
      obtain ⟨y', hxe, hy⟩ := hx.inv_iface
      cases hb : Nat.beq ty t with
      | true =>
        rw [hb] at h2; cases h2
        have := natBeq hb
        subst this
        refine hgo (if ok then .tuple #[y', .bool true] else y') ?_ ?_
        · rw [hxe]
          cases d <;> first | exact absurd rfl (hd _) | simp [Instr.typeAssert, run_underlying hu]
        · cases ok with
          | true => exact .tuple' (.two hy (.bool _))
          | false => exact hy
      | false =>
        rw [hb] at h2
        obtain ⟨hok, h3⟩ := guardB_some h2
        subst hok; cases h3
        have hne := natBeq_false hb
        refine hgo (.tuple #[zv, .bool false]) ?_ (.tuple' (.two hzv (.bool _)))
        rw [hxe]
        cases d <;> first | exact absurd rfl (hd _) | simp [Instr.typeAssert, run_underlying hu, hne, hzr w]
    · obtain ⟨hok, h3⟩ := guardB_some h2
      subst hok; cases h3
      cases hxe : A.eval x <;> rw [hxe] at hx <;> try (cases hx; done)
      refine hgo (.tuple #[zv, .bool false]) ?_ (.tuple' (.two hzv (.bool _)))
      rw [hxe]
      cases d <;> first | exact absurd rfl (hd _) | simp [Instr.typeAssert, run_underlying hu, hzr w]
    · cases h2
  · cases hv

theorem rExtract_ok {o : Oper} {x : Operand} {i : Nat} (ho : o.op = .extract x i) : ROk P cx (rExtract (cO cx x) i) o := by
  intro φ e N nv tm A h w v hA hR hv
  obtain ⟨a, ha, h2⟩ := ob_some (x := (cO cx x).run nv tm) hv
  obtain ⟨l, hl, h3⟩ := onTuple_some h2
  subst hl
  rw [lget_eq] at h3
  obtain ⟨us, hx, hr⟩ := (op_ok hG hA hR ha).inv_tuple
  obtain ⟨u, hu, hur⟩ := hr.get h3
  rw [Array.getElem?_toList] at hu
  refine ⟨u, ?_, hur⟩
  simp only [execOp, ho]
  refine run_v ?_
  rw [hx]
  simp [Instr.extract, hu]
end
end Go.AE
