/-
Texts of the proof, joined: AERd5, AEAl, AEApp, AEAc, AEAc2, AEAc3, AEAc4, AEAc5.
-/
import Derived.Test.YtaajedkbaahgfaaGreatDoorA2
import Derived.Laws.MakeOwn
import Derived.Laws.CopyRow
set_option linter.unusedSimpArgs false
set_option linter.unusedVariables false
set_option linter.unusedSectionVars false
/-
A symbolic executor: lengths, the least and the greatest, what is built.
-/
namespace Go.AE

section
variable {P : Program} {cx : Cx} {φ : Ph} {e : Syms} {N : Nat} {nv : Env} {tm : TM} {A : Act} {h : Heap} {nx : Nat} {w : World}

theorem EntR.length : ∀ {l : List Ent} {r : List MapEntry}, EntR φ e l r → l.length = r.length
  | _, _, .nil => rfl
  | _, _, .cons x l y r hk hv hb t => by simp [t.length]

theorem undO_head {l : Array TypeId} {d : TypeDesc} (h : undO P (headO l.toList) = some d) : ∃ t, l[0]? = some t ∧ P.underlying t = some d := by
  obtain ⟨t, ht, h⟩ := ob_some (x := headO l.toList) h
  refine ⟨t, ?_, h⟩
  rw [← Array.getElem?_toList]
  cases hl : l.toList with
  | nil => rw [hl] at ht; cases ht
  | cons a r => rw [hl] at ht; cases ht; rfl

theorem cOs_map (l : List Operand) : cOs cx l = l.map (cO cx) := by
  induction l with
  | nil => rfl
  | cons a l ih => rw [List.map_cons, ← ih]; rfl

theorem args_one {l : Array Operand} {x : CO} (h : cOs cx l.toList = [x]) : ∃ a, l = #[a] ∧ x = cO cx a := by
  rw [cOs_map] at h
  cases hl : l.toList with
  | nil => rw [hl] at h; cases h
  | cons a r =>
    rw [hl] at h
    cases r with
    | nil => simp at h; exact ⟨a, Array.toList_inj.1 (by simp [hl]), h.symm⟩
    | cons b r => simp at h
theorem args_two {l : Array Operand} {x y : CO} (h : cOs cx l.toList = [x, y]) : ∃ a b, l = #[a, b] ∧ x = cO cx a ∧ y = cO cx b := by
  rw [cOs_map] at h
  cases hl : l.toList with
  | nil => rw [hl] at h; cases h
  | cons a r =>
    rw [hl] at h
    cases r with
    | nil => simp at h
    | cons b r => cases r with
      | nil => simp at h; exact ⟨a, b, Array.toList_inj.1 (by simp [hl]), h.1.symm, h.2.symm⟩
      | cons c r => simp at h

theorem run_builtin {o : Oper} {c : Call} {b : Builtin} (ho : o.op = .call c) (hc : c.callee = .builtin b) (A : Act) :
    execOp A.eval o = builtin b c.argTypes o.type (c.args.map fun | .const _ => true | _ => false) (c.args.map A.eval) := by
  simp only [execOp, ho, resolve, hc]
  rfl

variable (hG : cx.G ≤ P.globals.size)
include hG

theorem rLen_ok {o : Oper} {c : Call} (ho : o.op = .call c) (hc : c.callee = .builtin .len) {a : Operand} (ha : c.args = #[a]) : ROk P cx (rLen (undO P (headO c.argTypes.toList)) (cO cx a)) o := by
  intro φ e N nv tm A h w v hA hR hv
  have hgo : ∀ u, (Builtin.len_ c.argTypes o.type #[A.eval a]).run P w = .ok u w → VR φ e v u → ∃ u, (execOp A.eval o).run P w = .ok (.value u) w ∧ VR φ e v u := by
    intro u h8 h9
    refine ⟨u, ?_, h9⟩
    rw [run_builtin ho hc, ha, show Array.map A.eval #[a] = #[A.eval a] by simp]
    exact run_v h8
  unfold rLen at hv
  split at hv
  · rename_i hd
    obtain ⟨t, ht, hu⟩ := undO_head hd
    obtain ⟨x, hx, h1⟩ := ob_some (x := (cO cx a).run nv tm) hv
    obtain ⟨n, z, hz, h2⟩ := onStr_some h1
    subst hz; cases h2
    obtain ⟨s, hxe, hs⟩ := (op_ok hG hA hR hx).inv_str
    have hn : s.size = n := by rw [← unpack_length n z, ← hs]; exact (Array.length_toList).symm
    refine hgo (.int .i64 n) ?_ (.int _ _)
    rw [hxe]
    simp [Builtin.len_, ht, run_underlying hu, goInt, hn]
  · rename_i n el hd
    obtain ⟨t, ht, hu⟩ := undO_head hd
    obtain ⟨x, hx, h1⟩ := ob_some (x := (cO cx a).run nv tm) hv
    cases h1
    refine hgo (.int .i64 n) ?_ (.int _ _)
    simp [Builtin.len_, ht, run_underlying hu, goInt]
  · rename_i el hd
    obtain ⟨t, ht, hu⟩ := undO_head hd
    obtain ⟨x, hx, h1⟩ := ob_some (x := (cO cx a).run nv tm) hv
    have hxr := op_ok hG hA hR hx
    unfold lenSl at h1
    split at h1
    · cases h1
      refine hgo (.int .i64 0) ?_ (.int _ _)
      rw [hxr.inv_nilslice]
      simp [Builtin.len_, ht, run_underlying hu, goInt]
    · rename_i b off n cap sz
      cases h1
      refine hgo (.int .i64 n) ?_ (.int _ _)
      rcases hxr.inv_slice with ⟨L, c', _, _, _, hxe, _⟩ | ⟨_, hl, ad, hxe⟩
      · rw [hxe]; simp [Builtin.len_, ht, run_underlying hu, goInt]
      · rw [hxe, hl]; simp [Builtin.len_, ht, run_underlying hu, goInt]
    · cases h1
  · rename_i kt el hd
    obtain ⟨t, ht, hu⟩ := undO_head hd
    obtain ⟨x, hx, h1⟩ := ob_some (x := (cO cx a).run nv tm) hv
    have hxr := op_ok hG hA hR hx
    unfold lenMap at h1
    split at h1
    · cases h1
      refine hgo (.int .i64 0) ?_ (.int _ _)
      generalize A.eval a = y at hxr
      cases hxr
      simp [Builtin.len_, ht, run_underlying hu, goInt]
    · obtain ⟨blk, hblk, h2⟩ := ob_some (x := hget h _) h1
      obtain ⟨es, cl, hbe, h3⟩ := onEnts_some h2
      subst hbe; cases h3
      obtain ⟨L, hL, hxe⟩ := hxr.inv_map
      obtain ⟨es', hw, hre⟩ := map_run hR hL hblk
      have hn : llen es = es'.size := by rw [llen_eq, hre.length, Array.length_toList]
      refine hgo (.int .i64 es'.size) ?_ (by rw [hn]; exact .int _ _)
      rw [hxe]
      simp [Builtin.len_, ht, run_underlying hu, goInt, MapKept.run_getObj_map hw]
    · cases h1
  · cases hv

theorem rMin_ok {o : Oper} {c : Call} (ho : o.op = .call c) (hc : c.callee = .builtin .min) {a b : Operand} (ha : c.args = #[a, b]) : ROk P cx (rMin (cO cx a) (cO cx b)) o := by
  intro φ e N nv tm A h w v hA hR hv
  obtain ⟨x, hx, h1⟩ := ob_some (x := (cO cx a).run nv tm) hv
  obtain ⟨y, hy, h2⟩ := ob_some (x := (cO cx b).run nv tm) h1
  obtain ⟨k, m, hk, h3⟩ := onInt_some h2
  obtain ⟨j, n, hj, h4⟩ := onInt_some h3
  subst hk; subst hj; cases h4
  have hxe := (op_ok hG hA hR hx).inv_int
  have hye := (op_ok hG hA hR hy).inv_int
  refine ⟨.int k (if n < m then n else m), ?_, ?_⟩
  · rw [run_builtin ho hc, ha]
    refine run_v ?_
    simp [Builtin.min_, hxe, hye, Builtin.min2]
  · rw [ltI_eq]
    by_cases hlt : n < m <;> simp [hlt] <;> exact .int _ _
theorem rMax_ok {o : Oper} {c : Call} (ho : o.op = .call c) (hc : c.callee = .builtin .max) {a b : Operand} (ha : c.args = #[a, b]) : ROk P cx (rMax (cO cx a) (cO cx b)) o := by
  intro φ e N nv tm A h w v hA hR hv
  obtain ⟨x, hx, h1⟩ := ob_some (x := (cO cx a).run nv tm) hv
  obtain ⟨y, hy, h2⟩ := ob_some (x := (cO cx b).run nv tm) h1
  obtain ⟨k, m, hk, h3⟩ := onInt_some h2
  obtain ⟨j, n, hj, h4⟩ := onInt_some h3
  subst hk; subst hj; cases h4
  have hxe := (op_ok hG hA hR hx).inv_int
  have hye := (op_ok hG hA hR hy).inv_int
  refine ⟨.int k (if m < n then n else m), ?_, ?_⟩
  · rw [run_builtin ho hc, ha]
    refine run_v ?_
    simp [Builtin.max_, hxe, hye, Builtin.max2]
  · rw [ltI_eq]
    by_cases hlt : m < n <;> simp [hlt] <;> exact .int _ _

theorem rBuiltin_ok {o : Oper} {c : Call} {b : Builtin} (ho : o.op = .call c) (hc : c.callee = .builtin b) : ROk P cx (rBuiltin b (undO P (headO c.argTypes.toList)) (cOs cx c.args.toList)) o := by
  unfold rBuiltin
  split
  · rename_i x hx
    obtain ⟨a, ha, rfl⟩ := args_one hx
    unfold rBuiltin1
    split
    · exact rLen_ok hG ho hc ha
    · exact rNo_ok o
  · rename_i x y hx
    obtain ⟨a, b', ha, rfl, rfl⟩ := args_two hx
    unfold rBuiltin2
    split
    · exact rMin_ok hG ho hc ha
    · exact rMax_ok hG ho hc ha
    · exact rNo_ok o
  · exact rNo_ok o

/-! what is built -/
omit hG in
theorem foldl_set (off : Nat) : ∀ (vs : List Value) (k : Nat) (us : Array Value), off + k + vs.length ≤ us.size →
    ((vs.zipIdx k).foldl (fun cs (x : Value × Nat) => cs.setIfInBounds (off + x.2) x.1) us).size = us.size ∧
    ∀ i, ((vs.zipIdx k).foldl (fun cs (x : Value × Nat) => cs.setIfInBounds (off + x.2) x.1) us)[i]? = if off + k ≤ i ∧ i < off + k + vs.length then vs[i - off - k]? else us[i]? := by
  intro vs
  induction vs with
  | nil => intro k us _; simp; intro i h1 h2; omega
  | cons v vs ih =>
    intro k us hle
    rw [List.zipIdx_cons, List.foldl_cons]
    simp only [List.length_cons] at hle
    obtain ⟨h1, h2⟩ := ih (k + 1) (us.setIfInBounds (off + k) v) (by simp; omega)
    refine ⟨by rw [h1]; simp, fun i => ?_⟩
    rw [h2 i]
    simp only [List.length_cons]
    by_cases ha : i = off + k
    · subst ha
      rw [if_neg (by omega), if_pos (by omega)]
      rw [Array.getElem?_setIfInBounds_self_of_lt (by omega)]
      simp
    · by_cases hb : off + k ≤ i ∧ i < off + k + (vs.length + 1)
      · rw [if_pos (by omega), if_pos hb]
        obtain ⟨m, hm⟩ : ∃ m, i - off - k = m + 1 := ⟨i - off - k - 1, by omega⟩
        rw [hm, List.getElem?_cons_succ]
        congr 1
        omega
      · rw [if_neg (by omega), if_neg hb, Array.getElem?_setIfInBounds_ne (by omega)]

omit hG in
theorem splice_ok {off : Nat} {vs cs r : List AV} {us : Array Value} {x : Array Value} (h : lsplice off vs cs = some r) (hv : VRL φ e vs x.toList) (hc : VRL φ e cs us.toList) :
    off + x.size ≤ us.size ∧ VRL φ e r (x.zipIdx.foldl (fun cs (c, j) => cs.setIfInBounds (off + j) c) us).toList := by
  have hlv : vs.length = x.size := by rw [hv.length, Array.length_toList]
  have hlc : cs.length = us.size := by rw [hc.length, Array.length_toList]
  obtain ⟨hle, _⟩ := lsplice_some off h
  have hb : off + x.size ≤ us.size := by omega
  refine ⟨hb, ?_⟩
  have he : x.zipIdx.foldl (fun cs (c, j) => cs.setIfInBounds (off + j) c) us = (x.toList.zipIdx 0).foldl (fun cs (x : Value × Nat) => cs.setIfInBounds (off + x.2) x.1) us := by
    rw [← Array.foldl_toList, Array.toList_zipIdx]
  obtain ⟨h1, h2⟩ := foldl_set off x.toList 0 us (by simpa using hb)
  rw [he]
  refine .of_get ?_ fun i a ha => ?_
  · rw [lsplice_length off h, hlc, Array.length_toList, h1]
  · rw [Array.getElem?_toList, h2 i]
    have hg := lsplice_get off h i
    rw [hg] at ha
    simp only [Nat.add_zero, Array.length_toList, Nat.sub_zero]
    rw [hlv] at ha
    by_cases hin : off ≤ i ∧ i < off + x.size
    · rw [if_pos hin] at ha ⊢
      exact hv.get ha
    · rw [if_neg hin] at ha ⊢
      have := hc.get ha
      rwa [Array.getElem?_toList] at this

theorem fill_ok {place place' : Nat → Option (Nat × Nat)} (hp : ∀ i q, place i = some q → place' i = some q) (hA : AR φ e N cx nv tm A) (hR : RV P.globals.size φ e h w) :
    ∀ (parts : List (Nat × Operand)) (l : PL) (cs r : List AV) (us : Array Value), placesOf cx place parts = some l → fillP l nv tm cs = some r → VRL φ e cs us.toList →
      ∃ us', Instr.fill place' us (parts.map fun (i, x) => (i, A.eval x)) = some us' ∧ VRL φ e r us'.toList := by
  intro parts
  induction parts with
  | nil => intro l cs r us h1 h2 h3; cases h1; cases h2; exact ⟨us, rfl, h3⟩
  | cons p parts ih =>
    intro l cs r us h1 h2 h3
    obtain ⟨i, x⟩ := p
    obtain ⟨b, q, hb, hq, rfl⟩ := mapO_cons h1
    obtain ⟨⟨off, sz⟩, hpl, h4⟩ := ob_some (x := place i) hb
    cases h4
    obtain ⟨v, hv, h5⟩ := ob_some (x := (cO cx x).run nv tm) h2
    obtain ⟨h6, h7⟩ := guardB_some h5
    obtain ⟨cs1, hcs1, h8⟩ := ob_some (x := lsplice off (cellsA v) cs) h7
    have hx := (op_ok hG hA hR hv).cells
    obtain ⟨h9, h10⟩ := splice_ok hcs1 hx h3
    obtain ⟨us', h11, h12⟩ := ih q cs1 r _ hq h8 h10
    have hsz : (A.eval x).cells.size = sz := by
      rw [← Array.length_toList, ← hx.length, ← llen_eq]; exact natBeq h6
    refine ⟨us', ?_, h12⟩
    simp only [List.map_cons, Instr.fill, hp i _ hpl]
    rw [if_neg (by simp [hsz]; omega)]
    exact h11

omit hG in
theorem allSz_places (fs : List Field) (h : allSz P fs = true) : ∃ places, fs.mapM (fun f => (P.info? f.type).map fun i => (f.offset, i.size)) = some places ∧
    ∀ i q, placeF P fs i = some q → places[i]? = some q := by
  induction fs with
  | nil => exact ⟨[], rfl, fun i q hq => by cases i <;> cases hq⟩
  | cons f fs ih =>
    obtain ⟨h1, h2⟩ := andB_true h
    obtain ⟨places, hp, hq⟩ := ih h2
    cases hi : P.info? f.type with
    | none => rw [szT, hi] at h1; cases h1
    | some inf =>
      refine ⟨(f.offset, inf.size) :: places, by simp [List.mapM_cons, hi, hp], fun i q h3 => ?_⟩
      cases i with
      | zero =>
        obtain ⟨s, hs, h5⟩ := ob_some (x := szT P f.type) h3
        cases h5
        rw [szT, hi] at hs
        cases hs
        rfl
      | succ i => exact hq i q h3

theorem rBuild_ok {o : Oper} {t : TypeId} {parts : Array (Nat × Operand)} (ho : o.op = .build t parts) : ROk P cx (rBuild P cx (P.underlying t) (zeroA P t) parts.toList) o := by
  intro φ e N nv tm A h w v hA hR hv
  have hgo : ∀ cells : Array Value, P.built t (parts.map fun (i, x) => (i, A.eval x)).toList = some cells → VR φ e v (.agg cells) → ∃ u, (execOp A.eval o).run P w = .ok (.value u) w ∧ VR φ e v u := by
    intro cells h8 h9
    refine ⟨_, ?_, h9⟩
    simp only [execOp, ho]
    exact run_v (run_build w t _ cells h8)
  unfold rBuild at hv
  split at hv
  · rename_i fs hu
    cases hall : allSz P fs.toList with
    | false => rw [hall] at hv; cases hv
    | true =>
      rw [hall] at hv
      obtain ⟨z, hz, h1⟩ := withZero_some hv
      unfold rFill at h1
      split at h1
      · rename_i l hl
        obtain ⟨cs, hcs, h2⟩ := ob_some (x := fillP l nv tm (cellsA z)) h1
        cases h2
        obtain ⟨i, hi, hz1⟩ := ob_some (x := P.info? t) hz
        obtain ⟨zv, hzv, hz2⟩ := ob_some (x := i.zero) hz1
        obtain ⟨places, hp, hpl⟩ := allSz_places fs.toList hall
        obtain ⟨us', h3, h4⟩ := fill_ok hG (place' := (places.toArray[·]?)) (fun i q hq => by simpa using hpl i q hq) hA hR parts.toList l (cellsA z) cs zv.cells hl hcs (ofValue_ok 4 hz2).cells
        refine hgo us' ?_ (.agg' h4)
        simp only [Program.built, hi, hu, hzv, hp, Array.toList_map]
        exact h3
      · cases h1
  · rename_i n el hu
    obtain ⟨z, hz, h1⟩ := withZero_some hv
    split at h1
    · rename_i sz hs
      unfold rFill at h1
      split at h1
      · rename_i l hl
        obtain ⟨cs, hcs, h2⟩ := ob_some (x := fillP l nv tm (cellsA z)) h1
        cases h2
        obtain ⟨i, hi, hz1⟩ := ob_some (x := P.info? t) hz
        obtain ⟨zv, hzv, hz2⟩ := ob_some (x := i.zero) hz1
        obtain ⟨ie, hie, hs1⟩ := ob_some (x := P.info? el) hs
        cases hs1
        obtain ⟨us', h3, h4⟩ := fill_ok hG (place' := fun i => some (i * ie.size, ie.size)) (fun i q hq => by cases hq; rfl) hA hR parts.toList l (cellsA z) cs zv.cells hl hcs (ofValue_ok 4 hz2).cells
        refine hgo us' ?_ (.agg' h4)
        simp only [Program.built, hi, hu, hzv, hie, Array.toList_map]
        exact h3
      · cases h1
    · cases h1
  · cases hv
end
end Go.AE

/-
A symbolic executor: the operations that make one block.
-/
namespace Go.AE

def upd (φ : Ph) (id : Nat) (L : Loc) : Ph := fun b => if b = id then some L else φ b
theorem upd_self (φ : Ph) (id : Nat) (L : Loc) : upd φ id L id = some L := by simp [upd]
theorem upd_ne (φ : Ph) {id b : Nat} (L : Loc) (h : b ≠ id) : upd φ id L b = φ b := by simp [upd, h]
theorem upd_le {φ : Ph} {id : Nat} {L : Loc} (h : φ id = none) : Phi.le φ (upd φ id L) := by
  intro b K hb
  have : b ≠ id := by intro e; rw [e, h] at hb; cases hb
  rw [upd_ne _ _ this]; exact hb

/-- one new block stands at the end, nothing else has turned -/
structure Fresh (w w' : World) : Prop where
  size : w'.heap.size = w.heap.size + 1
  old : ∀ B, B < w.heap.size → w'.heap[B]? = w.heap[B]?
  os : w'.os = w.os
  tape : w'.tape = w.tape
  output : w'.output = w.output

theorem Fresh.alloc (w : World) (o : Obj) : Fresh w (w.alloc o) := ⟨by simp, fun B hB => heap_alloc_old w o B hB, rfl, rfl, rfl⟩
theorem Fresh.allocDrew (w : World) (o : Obj) : Fresh w (w.drew.alloc o) := ⟨by simp, fun B hB => heap_alloc_old w.drew o B hB, rfl, rfl, rfl⟩

section
variable {P : Program} {cx : Cx} {φ : Ph} {e : Syms} {N : Nat} {nv : Env} {tm : TM} {A : Act} {h : Heap} {nx : Nat} {w w' : World}

theorem RW.none_get {G : Nat} (hR : RW G φ e h nx w) {id : Nat} (hid : φ id = none) (hlt : HOk id) : hget h id = none := by
  cases hg : hget h id with
  | none => rfl
  | some blk =>
    obtain ⟨L, hL, _⟩ := hR.live id blk hlt hg
    rw [hid] at hL; cases hL

/-- a new block is taken in -/
theorem RW.fresh {G : Nat} (hR : RW G φ e h nx w) {id nx' : Nat} {blk : Blk} {L : Loc} (hid : φ id = none) (hlt : HOk id) (h1 : id < nx') (h2 : nx ≤ nx') (hf : Fresh w w') (hLB : L.B = w.heap.size)
    (hB : BR (upd φ id L) e w' L blk) : RW G (upd φ id L) e (hset h id blk) nx' w' ∧ Frame φ h w (upd φ id L) (hset h id blk) w' := by
  have hle : Phi.le φ (upd φ id L) := upd_le hid
  have hold : ∀ b K, φ b = some K → b ≠ id := by intro b K hb e; rw [e, hid] at hb; cases hb
  constructor
  · constructor
    · intro b bl hb hg
      by_cases hbi : b = id
      · subst hbi
        rw [hget_hset] at hg; cases hg
        exact ⟨L, upd_self _ _ _, hB⟩
      · rw [hget_hset_ne hb hlt hbi] at hg
        obtain ⟨K, hK, hBK⟩ := hR.live b bl hb hg
        exact ⟨K, hle _ _ hK, (hBK.mono hle).same (hf.old _ hBK.lt)⟩
    · intro b b' bl bl' K K' hb hb' hg hg' hK hK' hne hro
      by_cases hbi : b = id
      · subst hbi
        rw [upd_self] at hK; cases hK
        have hne' : b' ≠ b := fun e => hne e.symm
        rw [hget_hset_ne hb' hlt hne'] at hg'
        obtain ⟨K2, hK2, hB2⟩ := hR.live b' bl' hb' hg'
        rw [upd_ne _ _ hne', hK2] at hK'; cases hK'
        have := hB2.lt
        omega
      · rw [hget_hset_ne hb hlt hbi] at hg
        rw [upd_ne _ _ hbi] at hK
        by_cases hbi' : b' = id
        · subst hbi'
          rw [upd_self] at hK'; cases hK'
          obtain ⟨K2, hK2, hB2⟩ := hR.live b bl hb hg
          rw [hK2] at hK; cases hK
          have := hB2.lt
          omega
        · rw [hget_hset_ne hb' hlt hbi'] at hg'
          rw [upd_ne _ _ hbi'] at hK'
          exact hR.sep b b' bl bl' K K' hb hb' hg hg' hK hK' hne (by rw [← hro_of_lo (hset_lo h id blk) b]; exact hro)
    · intro b K hK
      by_cases hbi : b = id
      · subst hbi; exact ⟨h1, hlt⟩
      · rw [upd_ne _ _ hbi] at hK
        obtain ⟨h3, h4⟩ := hR.dom b K hK
        exact ⟨by omega, h4⟩
    · intro g hg
      obtain ⟨S, hS⟩ := hR.gl g hg
      exact ⟨S, hle _ _ hS⟩
    · intro b bl K hg hK hro hex
      by_cases hbi : b = id
      · subst hbi
        rw [upd_self] at hK; cases hK
        have := hR.exb _ hex; omega
      · rw [hget_hset_ne (hok b) hlt hbi] at hg
        rw [upd_ne _ _ hbi] at hK
        exact hR.exo b bl K hg hK (by rw [← hro_of_lo (hset_lo h id blk) b]; exact hro) hex
    · intro B hB; have := hR.exb B hB; rw [hf.size]; omega
  · refine ⟨by rw [hf.size]; omega, fun B hB _ => hf.old B hB, ?_, hf.os, hf.tape, hf.output, hset_lo _ _ _, ?_⟩
    rotate_left
    · rintro B ⟨b, bl, K, hg, hK, rfl⟩ hlt'
      by_cases hbi : b = id
      · subst hbi
        rw [upd_self] at hK; cases hK
        omega
      · rw [hget_hset_ne (hok b) hlt hbi] at hg
        rw [upd_ne _ _ hbi] at hK
        exact ⟨b, bl, K, hg, hK, rfl⟩
    rintro B ⟨b, bl, K, hb, hg, hK, rfl⟩ hlt'
    by_cases hbi : b = id
    · subst hbi
      rw [upd_self] at hK; cases hK
      omega
    · rw [hget_hset_ne (hok b) hlt hbi] at hg
      rw [upd_ne _ _ hbi] at hK
      exact ⟨b, bl, K, by rw [← hro_of_lo (hset_lo h id blk) b]; exact hb, hg, hK, rfl⟩

/-- a new row's cells -/
theorem BR.row {L : Loc} {cells : Array Value} {t : TypeId} {lo hi : Nat} {cs : List AV} {us : List Value} (hw : w'.heap[L.B]? = some (.cells cells t (lo, hi))) (hO : L.O = 0) (hS : cells.size = L.S)
    (hfr : ∀ i, i < L.S → ¬ (lo ≤ i ∧ i < hi)) (hcs : VRL φ e cs us) (hpre : ∀ (i : Nat) (u : Value), us[i]? = some u → cells[i]? = some u) : BR φ e w' L (.cells cs) := by
  refine ⟨cells, t, lo, hi, hw, hS, ?_, fun _ => hfr, fun i v hv => ?_⟩
  · rw [hO, Nat.zero_add, hcs.length, ← hS]
    rcases Nat.lt_or_ge cells.size us.length with hlt | hge
    · have := hpre cells.size us[cells.size] (List.getElem?_eq_getElem hlt)
      rw [Array.getElem?_eq_none (Nat.le_refl _)] at this; cases this
    · exact hge
  · obtain ⟨u, hu, hr⟩ := hcs.get hv
    exact ⟨u, by rw [hO, Nat.zero_add]; exact hpre i u hu, hr⟩

def AOk (P : Program) (cx : Cx) (f : AL) (o : Oper) : Prop :=
  ∀ {φ : Ph} {e : Syms} {N : Nat} {nv : Env} {tm : TM} {A : Act} {h : Heap} {w : World} {id : Nat} {r : AV × Blk},
    AR φ e N cx nv tm A → RV P.globals.size φ e h w → φ id = none → HOk id → f.run nv tm id = some r →
      ∃ u w' L, (execOp A.eval o).run P w = .ok (.value u) w' ∧ Fresh w w' ∧ L.B = w.heap.size ∧ VR (upd φ id L) e r.1 u ∧ BR (upd φ id L) e w' L r.2

theorem aNo_ok (o : Oper) : AOk P cx aNo o := by
  intro φ e N nv tm A h w id r _ _ _ _ hv; cases hv

theorem newRow_cells {L : Loc} {cells : Array Value} {t : TypeId} {cs : List AV} (w : World) (hL : L = ⟨w.heap.size, 0, cells.size⟩) (hcs : VRL φ e cs cells.toList) :
    BR φ e (w.alloc (.cells cells t)) L (.cells cs) := by
  subst hL
  refine BR.row (cells := cells) (t := t) (lo := 0) (hi := 0) (heap_alloc_new w _) rfl rfl (fun i _ hh => by omega) hcs fun i u hu => ?_
  rwa [Array.getElem?_toList] at hu

theorem VR.ptr0 {id B S : Nat} : VR (upd φ id ⟨B, 0, S⟩) e (.ptr id 0) (.pointer (some ⟨B, 0, none⟩)) := .ptr id 0 ⟨B, 0, S⟩ (upd_self _ _ _)

theorem aAlloc_ok {o : Oper} {t : TypeId} (ho : o.op = .alloc t) : AOk P cx (aAlloc (zeroA P t) (szT P t)) o := by
  intro φ e N nv tm A h w id r hA hR hid hlt hv
  unfold aAlloc at hv
  split at hv
  · rename_i z n hz hs
    cases hv
    obtain ⟨zv, hzr, _⟩ := zeroA_some hz φ e
    refine ⟨.pointer (some ⟨w.heap.size, 0, none⟩), w.alloc (.cells zv.cells t), ⟨w.heap.size, 0, zv.cells.size⟩, ?_, Fresh.alloc _ _, rfl, VR.ptr0, newRow_cells w rfl ?_⟩
    · simp only [execOp, ho]
      refine run_v ?_
      simp [Instr.alloc, hzr w, newVar, newRow]
    · obtain ⟨zv', hzr', hzv'⟩ := zeroA_some hz (upd φ id ⟨w.heap.size, 0, zv.cells.size⟩) e
      have := (hzr w).symm.trans (hzr' w)
      cases this
      exact hzv'.cells
  · cases hv

variable (hG : cx.G ≤ P.globals.size)
include hG

theorem aBox_ok {o : Oper} {t : TypeId} {x : Operand} (ho : o.op = .box t x) : AOk P cx (aBox (cO cx x)) o := by
  intro φ e N nv tm A h w id r hA hR hid hlt hv
  obtain ⟨v, hx, h1⟩ := ob_some (x := (cO cx x).run nv tm) hv
  obtain ⟨_, h2⟩ := guardB_some h1
  cases h2
  have hxr := op_ok hG hA hR hx
  refine ⟨.pointer (some ⟨w.heap.size, 0, none⟩), w.alloc (.cells (A.eval x).cells t), ⟨w.heap.size, 0, (A.eval x).cells.size⟩, ?_, Fresh.alloc _ _, rfl, VR.ptr0, newRow_cells w rfl ?_⟩
  · simp only [execOp, ho]
    refine run_v ?_
    simp [Instr.box, newVar, newRow]
  · exact (hxr.mono (upd_le hid)).cells

omit hG in
theorem rep_get (z : List AV) : ∀ (n i : Nat), (repL z n)[i]? = if i < n * z.length then z[i % z.length]? else none := by
  intro n
  induction n with
  | zero => intro i; rw [if_neg (by omega)]; rfl
  | succ n ih =>
    intro i
    change (lapp z (repL z n))[i]? = _
    rw [lapp_eq]
    by_cases hi : i < z.length
    · rw [List.getElem?_append_left hi, if_pos (by rw [Nat.succ_mul]; omega), Nat.mod_eq_of_lt hi]
    · rw [List.getElem?_append_right (by omega), ih]
      have : i % z.length = (i - z.length) % z.length := by rw [Nat.mod_eq_sub_mod (by omega)]
      rw [this, Nat.succ_mul]
      by_cases h2 : i - z.length < n * z.length
      · rw [if_pos h2, if_pos (by omega)]
      · rw [if_neg h2, if_neg (by omega)]
omit hG in
theorem rep_length (z : List AV) (n : Nat) : (repL z n).length = n * z.length := by
  rw [repL_eq]; simp
omit hG in
theorem rep_ok {z : List AV} {zv : Array Value} (hz : VRL φ e z zv.toList) (hs : 0 < zv.size) (n : Nat) : VRL φ e (repL z n) (madeCells zv (n * zv.size)).toList := by
  have hl : z.length = zv.size := by rw [hz.length, Array.length_toList]
  refine .of_get ?_ fun i a ha => ?_
  · rw [rep_length, hl, Array.length_toList, size_madeCells]
  · rw [rep_get z, hl] at ha
    by_cases hi : i < n * zv.size
    · rw [if_pos hi] at ha
      obtain ⟨u, hu, hr⟩ := hz.get ha
      refine ⟨u, ?_, hr⟩
      rw [Array.getElem?_toList] at hu ⊢
      have hm : i % zv.size < zv.size := Nat.mod_lt _ hs
      rw [Array.getElem?_eq_getElem hm] at hu
      cases hu
      simp [madeCells, hi, getElem!_pos zv (i % zv.size) hm]
    · rw [if_neg hi] at ha; cases ha

omit hG in
theorem VR.slice0 {id B n c sz S : Nat} (hl : n ≤ c) (hs : c * sz ≤ S) : VR (upd φ id ⟨B, 0, S⟩) e (.slice id 0 n (some c) sz) (.slice (some ⟨B, 0, none⟩) n c) :=
  .slice id 0 n c sz ⟨B, 0, S⟩ (upd_self _ _ _) hl (by simpa using hs)

theorem aLit_ok {o : Oper} {t : TypeId} {len : Nat} {parts : Array (Nat × Operand)} (ho : o.op = .buildSlice t len parts) : AOk P cx (aLit P cx len (P.underlying t) parts.toList) o := by
  intro φ e N nv tm A h w id r hA hR hid hlt hv
  unfold aLit at hv
  split at hv
  · rename_i el hu
    split at hv
    · rename_i sz z hs hz
      unfold aLit1 at hv
      split at hv
      · rename_i l hl
        cases hb : andB (Nat.beq (llen (cellsA z)) (sz + 1)) (Nat.blt (Nat.mul len (sz + 1)) 100000) with
        | false => rw [hb] at hv; cases hv
        | true =>
          rw [hb] at hv
          obtain ⟨h1, h2⟩ := andB_true hb
          have h1 := natBeq h1
          have h2 : len * (sz + 1) < 100000 := natBlt h2
          rw [llen_eq] at h1
          obtain ⟨cs, hcs, h3⟩ := ob_some (x := fillP l nv tm (repL (cellsA z) len)) hv
          cases h3
          obtain ⟨zv, hzr, hzv⟩ := zeroA_some hz φ e
          have hzs : zv.cells.size = sz + 1 := by rw [← Array.length_toList, ← hzv.cells.length, h1]
          obtain ⟨us', h4, h5⟩ := fill_ok hG (place' := fun i => some (i * (sz + 1), sz + 1)) (fun i q hq => by cases hq; rfl) hA hR parts.toList l _ cs (madeCells zv.cells (len * (sz + 1))) hl hcs
            (by have := rep_ok hzv.cells (by omega) len; rwa [hzs] at this)
          have hus : us'.size = len * (sz + 1) := by
            have e1 : cs.length = us'.size := by rw [h5.length, Array.length_toList]
            have e2 : ∀ (l : PL) (a b : List AV), fillP l nv tm a = some b → b.length = a.length := by
              intro l
              induction l with
              | nil => intro a b hab; cases hab; rfl
              | cons p l ih =>
                intro a b hab
                obtain ⟨v, hv, h6⟩ := ob_some (x := p.2.2.run nv tm) hab
                obtain ⟨_, h7⟩ := guardB_some h6
                obtain ⟨c, hc, h8⟩ := ob_some (x := lsplice p.1 (cellsA v) a) h7
                rw [ih c b h8, lsplice_length _ hc]
            rw [← e1, e2 l _ _ hcs, rep_length, h1]
          refine ⟨.slice (some ⟨w.heap.size, 0, none⟩) len len, w.alloc (.cells us' el), ⟨w.heap.size, 0, us'.size⟩, ?_, Fresh.alloc _ _, rfl, .slice0 (Nat.le_refl _) (Nat.le_of_eq hus.symm), newRow_cells w rfl (h5.mono (upd_le hid))⟩
          simp only [execOp, ho]
          refine run_v ?_
          have hbig : ¬ (2 ^ 24 < len * (sz + 1)) := by omega
          have hfill : Instr.fill (fun i => some (i * (sz + 1), sz + 1)) ((Array.range (len * (sz + 1))).map (zv.cells[· % zv.cells.size]!)) (parts.map fun (i, x) => (i, A.eval x)).toList = some us' := by
            rw [Array.toList_map]; exact h4
          by_cases hz0 : len * (sz + 1) = 0
          · have hl0 : len = 0 := by
              rcases Nat.mul_eq_zero.1 hz0 with h | h
              · exact h
              · omega
            subst hl0
            simp only [Nat.zero_mul, Array.range_zero', Array.map_empty] at hfill
            simp [Instr.buildSlice, run_underlying hu, szT_some hs, newRow, Array.range_zero']
            simp at hfill
            rw [hfill]
            simp
          · simp [Instr.buildSlice, run_underlying hu, szT_some hs, hbig, hz0, hzr w, newRow]
            simp at hfill
            rw [hfill]
            simp
      · cases hv
    · cases hv
  · cases hv

theorem aMap_ok {o : Oper} {t : TypeId} {x : Option Operand} (ho : o.op = .makeMap t x) : AOk P cx (aMapT (P.underlying t) (cOpt cx x)) o := by
  intro φ e N nv tm A h w id r hA hR hid hlt hv
  have hgo : (Instr.makeMap t (x.map A.eval)).run P w = .ok (.map (some w.heap.size)) (w.alloc (.map #[] 0)) → r = (.map id, .map [] 0) →
      ∃ u w' L, (execOp A.eval o).run P w = .ok (.value u) w' ∧ Fresh w w' ∧ L.B = w.heap.size ∧ VR (upd φ id L) e r.1 u ∧ BR (upd φ id L) e w' L r.2 := by
    intro h1 h2
    subst h2
    refine ⟨.map (some w.heap.size), w.alloc (.map #[] 0), ⟨w.heap.size, 0, 0⟩, ?_, Fresh.alloc _ _, rfl, .map id _ (upd_self _ _ _), #[], heap_alloc_new w _, .nil⟩
    simp only [execOp, ho]
    exact run_v h1
  cases x with
  | none => cases hv; exact hgo (by simp [Instr.makeMap]) rfl
  | some x =>
    change (aMapT (P.underlying t) (some (cO cx x))).run nv tm id = some r at hv
    unfold aMapT at hv
    split at hv
    · rename_i hc; cases hc
    · rename_i c kt et hc hu
      cases hc
      obtain ⟨v, hx, h1⟩ := ob_some (x := (cO cx x).run nv tm) hv
      obtain ⟨k, n, hk, h2⟩ := onInt_some h1
      subst hk; cases h2
      have hxe := (op_ok hG hA hR hx).inv_int
      exact hgo (by simp [Instr.makeMap, run_underlying hu, hxe, asInt, asIntOf]) rfl
    · cases hv

theorem aMake_ok {o : Oper} {t : TypeId} {l c : Operand} (ho : o.op = .makeSlice t l c) : AOk P cx (aMake P (P.underlying t) (cO cx l) (cO cx c)) o := by
  intro φ e N nv tm A h w id r hA hR hid hlt hv
  unfold aMake at hv
  split at hv
  · rename_i el hu
    split at hv
    · rename_i sz z b hs hz hb
      unfold aMake1 at hv
      cases hg : andB (Nat.beq (llen (cellsA z)) (sz + 1)) (Nat.blt b 100000) with
      | false => rw [hg] at hv; cases hv
      | true =>
        rw [hg] at hv
        obtain ⟨h1, h2⟩ := andB_true hg
        have h1 := natBeq h1
        have h2 := natBlt h2
        rw [llen_eq] at h1
        obtain ⟨x, hx, h3⟩ := ob_some (x := (cO cx l).run nv tm) hv
        obtain ⟨y, hy, h4⟩ := ob_some (x := (cO cx c).run nv tm) h3
        obtain ⟨k, m, hm, h5⟩ := onNat_some h4
        obtain ⟨j, n, hn, h6⟩ := onNat_some h5
        subst hm; subst hn
        obtain ⟨h7, h8⟩ := guardB_some h6
        cases h8
        obtain ⟨h9, h10⟩ := andB_true h7
        have h9 := natBle h9
        have h10 := natBlt h10
        obtain ⟨i, hi, hs1⟩ := ob_some (x := P.info? el) hs
        obtain ⟨i', hi', hb1⟩ := ob_some (x := P.info? el) hb
        rw [hi] at hi'; cases hi'
        obtain ⟨i', hi', hz1⟩ := ob_some (x := P.info? el) hz
        rw [hi] at hi'; cases hi'
        obtain ⟨zv, hzv, hz2⟩ := ob_some (x := i.zero) hz1
        have hzr : VR φ e z zv := ofValue_ok 4 hz2
        have hsz : i.size = sz + 1 := by injection hs1
        cases hb1
        have hzs : zv.cells.size = sz + 1 := by rw [← Array.length_toList, ← hzr.cells.length, h1]
        have hxe := (op_ok hG hA hR hx).inv_int
        have hye := (op_ok hG hA hR hy).inv_int
        have hb48 : ((i.bytes : Int) * (n : Int)) ≤ 281474976710656 := by
          have : i.bytes * n ≤ 100000 * 100000 := Nat.mul_le_mul (by omega) (by omega)
          have h' : ((i.bytes * n : Nat) : Int) ≤ 281474976710656 := by omega
          rwa [Int.natCast_mul] at h'
        have hrun := run_make (P := P) w t el i zv hu hi hzv k j (m : Int) (n : Int) (by omega) (by omega) hb48 (by omega)
        simp only [Int.toNat_natCast] at hrun
        refine ⟨_, w.alloc (.cells (madeCells zv.cells (n * i.size)) el), ⟨w.heap.size, 0, (madeCells zv.cells (n * i.size)).size⟩, ?_, Fresh.alloc _ _, rfl, .slice0 h9 (Nat.le_of_eq (by rw [size_madeCells, hsz])), newRow_cells w rfl ?_⟩
        · simp only [execOp, ho]
          refine run_v ?_
          rw [hxe, hye]
          exact hrun
        · have := rep_ok (hzr.mono (upd_le (L := ⟨w.heap.size, 0, (madeCells zv.cells (n * i.size)).size⟩) hid)).cells (by omega) n
          rw [hzs] at this
          rw [hsz] at this ⊢
          exact this
    · cases hv
  · cases hv

omit hG in
theorem bytesA_eq (n : Nat) : ∀ x, bytesA n x = (unpack n x).map fun b => AV.int .u8 (b.toNat : Int) := by
  induction n with
  | zero => intro x; rfl
  | succ n ih =>
    intro x
    rw [unpack_succ, List.map_cons, ← ih]
    show AV.int .u8 (.ofNat (x % 256)) :: bytesA n (x / 256) = _
    congr 2
    simp
omit hG in
theorem bytesA_ok {n x : Nat} {s : ByteArray} (hs : s.data.toList = unpack n x) : VRL φ e (bytesA n x) (s.data.map fun b => Value.int .u8 (b.toNat : Int)).toList := by
  rw [bytesA_eq, Array.toList_map, hs]
  generalize unpack n x = l
  induction l with
  | nil => exact .nil
  | cons b l ih => exact .cons _ _ _ _ (.int _ _) ih

theorem aBytes_ok {o : Oper} {s d : TypeId} {x : Operand} (ho : o.op = .convert s d x) : AOk P cx (aBytes P (P.underlying s) (P.underlying d) (cO cx x)) o := by
  intro φ e N nv tm A h w id r hA hR hid hlt hv
  unfold aBytes at hv
  split at hv
  · rename_i el hus hud
    unfold aBytes1 at hv
    split at hv
    · rename_i hel hsz
      obtain ⟨v, hx, h1⟩ := ob_some (x := (cO cx x).run nv tm) hv
      obtain ⟨n, z, hz, h2⟩ := onStr_some h1
      subst hz
      obtain ⟨h3, h4⟩ := guardB_some h2
      have h3 := natBlt h3
      cases h4
      obtain ⟨st, hxe, hst⟩ := (op_ok hG hA hR hx).inv_str
      have hn : st.size = n := by rw [← unpack_length n z, ← hst]; exact (Array.length_toList).symm
      -- the new row
      let cap := (Question.appendCap st.size 0 el).cut (w.tape w.drawn (.appendCap st.size 0 el))
      have hcap : st.size ≤ cap := by simp [cap, Question.cut]
      let cells : Array Value := (st.data.map fun b => Value.int .u8 (b.toNat : Int)) ++ Array.replicate (cap - st.size) (.int .u8 0)
      have hcs : cells.size = cap := by
        have : st.data.size = st.size := rfl
        simp [cells]; omega
      let w1 := w.drew.alloc (.cells cells el)
      let w2 := w1.freeze ⟨w.heap.size, cap, none⟩ 1
      have hw1 : w1.heap[w.heap.size]? = some (.cells cells el (0, 0)) := heap_alloc_new w.drew _
      have hw2 : w2.heap[w.heap.size]? = some (.cells cells el (cap, cap + 1)) := by
        have hlt : w.heap.size < w1.heap.size := (Array.getElem?_eq_some_iff.1 hw1).1
        have hval : w1.heap[w.heap.size] = .cells cells el (0, 0) := (Array.getElem?_eq_some_iff.1 hw1).2
        simp only [w2, World.freeze]
        rw [if_neg (by decide)]
        simp only [Array.getElem?_modify]
        simp [hw1]
      have hfresh : Fresh w w2 := by
        refine ⟨?_, fun B hB => ?_, rfl, rfl, rfl⟩
        · simp [w2, w1, World.freeze]
        · have : w2.heap[B]? = w1.heap[B]? := by
            simp only [w2, World.freeze]
            rw [if_neg (by decide)]
            simp only [Array.getElem?_modify]
            rw [if_neg (by show w.heap.size ≠ B; omega)]
          rw [this]
          exact heap_alloc_old w.drew _ B hB
      refine ⟨.slice (some ⟨w.heap.size, 0, none⟩) n cap, w2, ⟨w.heap.size, 0, cap⟩, ?_, hfresh, rfl, ?_, ?_⟩
      · simp only [execOp, ho]
        refine run_v ?_
        rw [hxe]
        simp only [convert, Sem.run_bind, run_underlying hus, run_underlying hud, Result.andThen_ok, run_underlying hel]
        have hshape : w1.shape? w.heap.size = some (el, cap) := by simp [World.shape?, hw1, hcs]
        simp [Conv.stringToBytes, Question.forced, newRow, markStringish]
        have hs' := hshape
        dsimp only [w1, cells, cap] at hs'
        rw [hs']
        simp only [freeze, Sem.run, Result.andThen_ok, hn, w2, w1, cells, cap]
      · exact .sliceU id 0 n cap 1 ⟨w.heap.size, 0, cap⟩ (upd_self _ _ _) (by omega) (by simp)
      · refine BR.row (cells := cells) (t := el) (lo := cap) (hi := cap + 1) hw2 rfl hcs (fun i hi hh => by simp at hi; omega) (bytesA_ok hst) fun i u hu => ?_
        rw [Array.getElem?_toList] at hu
        have hi := (Array.getElem?_eq_some_iff.1 hu).1
        rw [Array.getElem?_append_left hi]
        exact hu
    · cases hv
  · cases hv
end
end Go.AE

/-
A symbolic executor: append and copy, the runs.
-/
namespace Go.AE

section
variable {P : Program} {φ : Ph} {e : Syms} {h : Heap} {nx : Nat} {w : World}

theorem rowAt_ok {G : Nat} (hR : RW G φ e h nx w) {b o n : Nat} {L : Loc} {cs : List AV} (hL : φ b = some L) (hr : rowAt h b o n = some cs) :
    ∃ us : List Value, us.length = n ∧ VRL φ e cs us ∧ ∀ j u, us[j]? = some u → w.cell? ⟨L.B, L.O + o + j, none⟩ = some u := by
  obtain ⟨blk, hb, h1⟩ := ob_some (x := hget h b) hr
  obtain ⟨all, hq, h2⟩ := onCells_some h1
  subst hq
  rw [ldrop_eq] at h2
  obtain ⟨h3, h4⟩ := ltake_some n h2
  obtain ⟨hfit, hcell⟩ := row_cells hR.rv hL hb
  have hlen : cs.length = n := by rw [h4, List.length_take]; omega
  have hget : ∀ j v, cs[j]? = some v → ∃ u, w.cell? ⟨L.B, L.O + o + j, none⟩ = some u ∧ VR φ e v u := by
    intro j v hv
    have hj : j < n := by
      rcases Nat.lt_or_ge j cs.length with hlt | hge
      · omega
      · rw [List.getElem?_eq_none hge] at hv; cases hv
    rw [h4, List.getElem?_take, if_pos hj, List.getElem?_drop] at hv
    obtain ⟨u, hu, hr⟩ := hcell _ _ hv
    exact ⟨u, by rw [Nat.add_assoc]; exact hu, hr⟩
  clear h4 h3 h2 h1 hr
  induction cs generalizing n o with
  | nil => exact ⟨[], hlen, .nil, fun j u hu => by cases hu⟩
  | cons v cs ih =>
    obtain ⟨u, hu, hur⟩ := hget 0 v rfl
    obtain ⟨m, rfl⟩ : ∃ m, n = m + 1 := ⟨n - 1, by simp at hlen; omega⟩
    obtain ⟨us, h5, h6, h7⟩ := ih (o := o + 1) (n := m) (by simpa using hlen) (fun j v hv => by
      obtain ⟨u, hu, hr⟩ := hget (j + 1) v (by simpa using hv)
      exact ⟨u, by rw [show L.O + (o + 1) + j = L.O + o + (j + 1) by omega]; exact hu, hr⟩)
    refine ⟨u :: us, by simp [h5], .cons _ _ _ _ hur h6, fun j x hx => ?_⟩
    cases j with
    | zero => cases hx; exact hu
    | succ j =>
      have := h7 j x (by simpa using hx)
      rwa [show L.O + (o + 1) + j = L.O + o + (j + 1) by omega] at this

theorem cell_heap {w w' : World} (h : w'.heap = w.heap) (a : Addr) : w'.cell? a = w.cell? a := by simp [World.cell?, h]

/-- what is appended or copied -/
theorem srcA_ok {G : Nat} (hR : RW G φ e h nx w) {sz n : Nat} {v : AV} {new : List AV} {x : Value} (hs : srcA h sz n v = some new) (hx : VR φ e v x) :
    ∃ us : List Value, us.length = n * sz ∧ VRL φ e new us ∧ ∀ w' : World, w'.heap = w.heap → (Builtin.firstCells sz n x).run P w' = .ok us.toArray w' := by
  unfold srcA at hs
  split at hs
  · obtain ⟨h1, h2⟩ := guardB_some hs
    cases h2
    have h1 := natBeq h1
    subst h1
    refine ⟨[], by simp, .nil, fun w' _ => ?_⟩
    rw [hx.inv_nilslice]
    exact run_firstCells_none _ _ _ _ _
  · rename_i b o len cap z
    obtain ⟨h1, h2⟩ := guardB_some hs
    obtain ⟨h3, h4⟩ := andB_true h1
    have h3 := natBeq h3
    have h4 := natBle h4
    subst h3
    rcases hx.inv_slice with ⟨L, c, hL, h5, h6, hxe, _⟩ | ⟨_, hl, ad, hxe⟩
    · obtain ⟨us, h7, h8, h9⟩ := rowAt_ok hR hL h2
      refine ⟨us, h7, h8, fun w' hw' => ?_⟩
      rw [hxe]
      refine run_firstCells_some w' z n ⟨L.B, L.O + o, none⟩ len c us h7 fun j u hu => ?_
      rw [add_plain, cell_heap hw']
      exact h9 j u hu
    · have hn : n = 0 := by omega
      subst hn
      obtain ⟨blk, hb, h7⟩ := ob_some (x := hget h b) h2
      obtain ⟨all, hq, h8⟩ := onCells_some h7
      rw [show Nat.mul 0 z = 0 from Nat.zero_mul z] at h8
      have h9 := (ltake_some 0 h8).2
      subst h9
      refine ⟨[], by simp, .nil, fun w' _ => ?_⟩
      rw [hxe]
      exact run_firstCells_some w' z 0 ad 0 0 [] (by simp) (fun j u hu => by cases hu)
  · rename_i len z
    obtain ⟨h1, h2⟩ := guardB_some hs
    obtain ⟨h3, h4⟩ := andB_true h1
    have h3 := natBle h3
    have h4 := natBeq h4
    subst h4
    cases h2
    obtain ⟨s, hxe, hst⟩ := hx.inv_str
    have hst' : (s.extract 0 n).data.toList = unpack n z := by
      rw [ByteArray.data_extract, Array.toList_extract, List.extract_eq_take_drop, hst]
      simp
      exact unpack_take n len z h3
    refine ⟨((s.extract 0 n).data.map fun b => Value.int .u8 (b.toNat : Int)).toList, ?_, bytesA_ok hst', fun w' _ => ?_⟩
    · rw [Array.toList_map, List.length_map, hst', unpack_length]; omega
    · rw [hxe]
      show Result.ok ((s.extract 0 n).data.map fun b => Value.int .u8 (b.toNat : Int)) w' = _
      rw [Array.toArray_toList]
  · cases hs

theorem lenS_ok {v : AV} {x : Value} {n : Nat} (hn : lenS v = some n) (hx : VR φ e v x) (w : World) : (Builtin.lenOf x).run P w = .ok n w := by
  unfold lenS at hn
  split at hn
  · cases hn; rw [hx.inv_nilslice]; rfl
  · cases hn
    rcases hx.inv_slice with ⟨L, c, _, _, _, hxe, _⟩ | ⟨_, hl, ad, hxe⟩
    · rw [hxe]; rfl
    · rw [hxe, hl]; rfl
  · rename_i m z
    cases hn
    obtain ⟨s, hxe, hst⟩ := hx.inv_str
    have : s.size = n := by rw [← unpack_length n z, ← hst]; exact (Array.length_toList).symm
    rw [hxe, ← this]; rfl
  · cases hn

/-! stores -/
theorem store_run (g o : Nat) (t : TypeId) (fr : Nat × Nat) : ∀ (vs : List Value) (i : Nat) (cur : Array Value) (w : World), w.heap[g]? = some (.cells cur t fr) → o + i + vs.length ≤ cur.size →
    (∀ i, i < cur.size → ¬ (fr.1 ≤ i ∧ i < fr.2)) → (∀ v ∈ vs, v.oneCell' = true) →
    (storeCells ⟨g, o, none⟩ vs i).run P w = .ok () (w.setRow g (cur.toList.take (o + i) ++ vs ++ cur.toList.drop (o + i + vs.length)).toArray)
  | [], i, cur, w, hg, _, _, _ => by
    simp only [storeCells, List.append_nil, List.length_nil, Nat.add_zero, List.take_append_drop, Array.toArray_toList]
    rw [setRow_self w g cur t fr hg]
    rfl
  | v :: rest, i, cur, w, hg, hl, hfr, h1 => by
    have hi : o + i < cur.size := by simp at hl; omega
    have hadd : (⟨g, o, none⟩ : Addr).add i = ⟨g, o + i, none⟩ := by unfold Addr.add; split <;> simp_all
    have hcell : w.cell? ⟨g, o + i, none⟩ = some cur[o + i] := by simp [World.cell?, hg, hi]
    have hfro : w.frozen? ⟨g, o + i, none⟩ = false := by
      have := hfr (o + i) hi
      simp only [World.frozen?, hg]
      simpa using this
    have hst : (store ((⟨g, o, none⟩ : Addr).add i) v).run P w = .ok () (w.setRow g (cur.setIfInBounds (o + i) v)) := by
      rw [hadd, run_store P w _ v _ (h1 v (by simp)), hcell]
      simp [hfro, setCell_eq_setRow w g (o + i) cur t fr v hg]
    have ih := store_run g o t fr rest (i + 1) (cur.setIfInBounds (o + i) v) (w.setRow g (cur.setIfInBounds (o + i) v)) (setRow_heap w g cur _ t fr hg) (by simp at hl ⊢; omega) (by simpa using hfr) (fun x hx => h1 x (by simp [hx]))
    simp only [storeCells, Sem.run_bind, hst, Result.andThen_ok, ih, setRow_setRow]
    congr 3
    have e := list_seg_step cur.toList (o + i) v rest (by simp at hl ⊢; omega)
    simpa [Array.toList_setIfInBounds, Nat.add_assoc] using e

/-! append -/
theorem append_same {t u ty el : TypeId} {xd : TypeDesc} (ht : P.underlying t = some (.slice el)) (hu : P.underlying u = some xd) (hxd : ∀ k, xd ≠ .int k) (s x : Value) :
    (Builtin.append_ #[t, u] ty #[s, x]).run P w = (Builtin.append_ #[t, t] ty #[s, x]).run P w := by
  unfold Builtin.append_
  simp only [List.getElem?_toArray, List.getElem?_cons_zero, List.getElem?_cons_succ, Sem.run_bind, run_underlying ht, Result.andThen_ok]
  cases s <;> try rfl
  simp only [Sem.run_bind]
  congr 1
  funext size w1
  simp only [run_underlying ht, run_underlying hu, Result.andThen_ok, Sem.run_pure]

section
variable {t ty el : TypeId} {i : TypeInfo} {z : Value} (ht : P.underlying t = some (.slice el)) (hi : P.info? el = some i)
include ht hi

theorem append_grow (hz : i.zero = some z) {base : Option Addr} {sLen sCap n : Nat} {x : Value} {olds news : List Value} (hn : ∀ w', (Builtin.lenOf x).run P w' = .ok n w')
    (hnews : ∀ w' : World, w'.heap = w.heap → (Builtin.firstCells i.size n x).run P w' = .ok news.toArray w')
    (holds : ∀ w' : World, w'.heap = w.heap → (Builtin.firstCells i.size sLen (.slice base sLen sCap)).run P w' = .ok olds.toArray w')
    (hg : sCap < sLen + n) (h63 : sLen + n ≤ 9223372036854775807) (hfit : Builtin.nextslicecap (sLen + n) sCap * i.bytes ≤ 281474976710656) :
    (Builtin.append_ #[t, t] ty #[.slice base sLen sCap, x]).run P w =
      .ok (.slice (some ⟨w.heap.size, 0, none⟩) (sLen + n) (grownCap w (sLen + n) sCap el))
        (w.drew.alloc (.cells (olds.toArray ++ news.toArray ++ Builtin.zeroCells z.cells (grownCap w (sLen + n) sCap el - (sLen + n))) el)) := by
  have hn' : ¬ (sLen + n ≤ sCap) := by omega
  have h63' : ¬ (9223372036854775807 < ((sLen : Int) + (n : Int))) := by omega
  have h48' : ¬ (281474976710656 < Builtin.nextslicecap (sLen + n) sCap * i.bytes) := by omega
  have hf := hnews w.drew rfl
  have hfo := holds w.drew rfl
  simp [Builtin.append_, run_underlying ht, sizeOf, typeInfo, zeroValue, hi, hz, hn, hn', h63', h48', Question.forced, hf, hfo, newRow, grownCap]
  congr 2
  apply Array.ext'
  simp [List.append_assoc]

theorem append_room {base : Option Addr} {sLen sCap n : Nat} {x : Value} {news : List Value} {w' : World} (hn : ∀ w', (Builtin.lenOf x).run P w' = .ok n w')
    (hnews : (Builtin.firstCells i.size n x).run P w = .ok news.toArray w) (hroom : sLen + n ≤ sCap)
    (hst : match base with
      | some a => (storeCells (a.add (sLen * i.size)) news).run P w = .ok () w'
      | none => w' = w) :
    (Builtin.append_ #[t, t] ty #[.slice base sLen sCap, x]).run P w = .ok (.slice base (sLen + n) sCap) w' := by
  cases base with
  | none =>
    subst hst
    simp [Builtin.append_, run_underlying ht, sizeOf, typeInfo, hi, hn, hroom, hnews]
  | some a =>
    simp only at hst
    simp [Builtin.append_, run_underlying ht, sizeOf, typeInfo, hi, hn, hroom, hnews, hst]
end

/-! copy -/
theorem copy_run {t u ty el : TypeId} {i : TypeInfo} (ht : P.underlying t = some (.slice el)) (hi : P.info? el = some i) {base : Option Addr} {dLen dCap n : Nat} {x : Value} {news : List Value} {w' : World}
    (hn : (Builtin.lenOf x).run P w = .ok n w) (hnews : (Builtin.firstCells i.size (Nat.min n dLen) x).run P w = .ok news.toArray w)
    (hst : match base with
      | some a => (storeCells a news).run P w = .ok () w'
      | none => w' = w) :
    (Builtin.copy_ #[t, u] ty #[.slice base dLen dCap, x]).run P w = .ok (goInt (Nat.min n dLen : Nat)) w' := by
  cases base with
  | none =>
    subst hst
    simp [Builtin.copy_, run_underlying ht, sizeOf, typeInfo, hi, hn, hnews]
  | some a =>
    simp only at hst
    simp [Builtin.copy_, run_underlying ht, sizeOf, typeInfo, hi, hn, hnews, hst]
end
end Go.AE

/-
A symbolic executor: the operations that act (stores, append, copy).
-/
namespace Go.AE

/-- what is behind an operation that acts; 'id' is the number that it may have taken -/
structure Post (G : Nat) (φ : Ph) (e : Syms) (h : Heap) (nx : Nat) (w : World) (id : Nat) (φ' : Ph) (h' : Heap) (nx' : Nat) (w' : World) : Prop where
  ext : ∀ b, b < nx → b ≠ id → φ' b = φ b
  le : Phi.le φ φ'
  nx : nx ≤ nx'
  fr : Frame φ h w φ' h' w'
  rw : RW G φ' e h' nx' w'

section
variable {P : Program} {cx : Cx} {φ φ' : Ph} {e : Syms} {N : Nat} {nv : Env} {tm : TM} {A : Act} {h h' : Heap} {nx nx' : Nat} {w w' : World} {G : Nat}

theorem Post.refl (hR : RW G φ e h nx w) (id : Nat) : Post G φ e h nx w id φ h nx w := ⟨fun _ _ _ => rfl, fun _ _ h => h, Nat.le_refl _, Frame.refl _ _ _, hR⟩

/-- a live block is turned -/
theorem RW.turn (hR : RW G φ e h nx w) {b id : Nat} {blk blk' : Blk} {L L' : Loc} (hb : HOk b) (hg : hget h b = some blk) (hL : φ b = some L) (hLB : L'.B = L.B) (hid : HOk id)
    (hφ : φ' id = some L') (hφo : ∀ x, x ≠ id → φ' x = φ x) (hle : Phi.le φ φ') (hg' : hget h' id = some blk') (ho : ∀ x k, HOk x → x ≠ id → hget h' x = some k → x ≠ b ∧ hget h x = some k)
    (hsz : w'.heap.size = w.heap.size) (hw : ∀ B, B ≠ L.B → w'.heap[B]? = w.heap[B]?) (hos : w'.os = w.os) (htp : w'.tape = w.tape) (hou : w'.output = w.output)
    (hB : BR φ' e w' L' blk') (h1 : id < nx') (h2 : nx ≤ nx') (hmut : hro h b = false) (hlo : h'.lo = h.lo) : RW G φ' e h' nx' w' ∧ Frame φ h w φ' h' w' := by
  have hliveb : Live φ h L.B := ⟨b, blk, L, hmut, hg, hL, rfl⟩
  have hother : ∀ x k, HOk x → x ≠ id → hget h' x = some k → ∃ K, φ x = some K ∧ φ' x = some K ∧ K.B ≠ L.B ∧ BR φ e w K k ∧ hget h x = some k := by
    intro x k hx hne hk
    obtain ⟨hxb, hk'⟩ := ho x k hx hne hk
    obtain ⟨K, hK, hBK⟩ := hR.live x k hx hk'
    exact ⟨K, hK, hle _ _ hK, fun e => hR.sep b x blk k L K hb hx hg hk' hL hK (Ne.symm hxb) hmut e.symm, hBK, hk'⟩
  constructor
  · constructor
    · intro x k hx hk
      by_cases hne : x = id
      · subst hne
        rw [hg'] at hk; cases hk
        exact ⟨L', hφ, hB⟩
      · obtain ⟨K, hK, hK', hKB, hBK, _⟩ := hother x k hx hne hk
        exact ⟨K, hK', (hBK.mono hle).same (hw _ hKB)⟩
    · intro x y k k' K K' hx hy hk hk' hK hK' hne hro
      by_cases hxi : x = id
      · subst hxi
        rw [hφ] at hK; cases hK
        obtain ⟨M, _, hM', hMB, _⟩ := hother y k' hy (fun e => hne e.symm) hk'
        rw [hM'] at hK'; cases hK'
        rw [hLB]; exact fun e => hMB e.symm
      · obtain ⟨M, hM, hM', hMB, _, hk0⟩ := hother x k hx hxi hk
        rw [hM'] at hK; cases hK
        by_cases hyi : y = id
        · subst hyi
          rw [hφ] at hK'; cases hK'
          rw [hLB]; exact hMB
        · obtain ⟨M2, hM2, hM2', hM2B, _, hk0'⟩ := hother y k' hy hyi hk'
          rw [hM2'] at hK'; cases hK'
          exact hR.sep x y k k' _ _ hx hy hk0 hk0' hM hM2 hne (by rw [← hro_of_lo hlo x]; exact hro)
    · intro x K hK
      by_cases hxi : x = id
      · subst hxi; exact ⟨h1, hid⟩
      · rw [hφo x hxi] at hK
        obtain ⟨h3, h4⟩ := hR.dom x K hK
        exact ⟨by omega, h4⟩
    · intro g hg0
      obtain ⟨S, hS⟩ := hR.gl g hg0
      exact ⟨S, hle _ _ hS⟩
    · intro x k K hk hK hro
      by_cases hxi : x = id
      · subst hxi
        rw [hφ] at hK; cases hK
        rw [hLB]; exact hR.exo b blk L hg hL hmut
      · obtain ⟨M, hM, hM', _, _, hk0⟩ := hother x k (hok x) hxi hk
        rw [hM'] at hK; cases hK
        exact hR.exo x k _ hk0 hM (by rw [← hro_of_lo hlo x]; exact hro)
    · intro B hB; rw [hsz]; exact hR.exb B hB
  · refine ⟨Nat.le_of_eq hsz.symm, fun B _ hn => hw B (fun e => hn (e ▸ hliveb)), ?_, hos, htp, hou, hlo, ?_⟩
    rotate_left
    · rintro B ⟨x, k, K, hk, hK, rfl⟩ _
      by_cases hxi : x = id
      · subst hxi
        rw [hφ] at hK; cases hK
        rw [hLB]; exact hliveb.here
      · obtain ⟨M, hM, hM', _, _, hk0⟩ := hother x k (hok x) hxi hk
        rw [hM'] at hK; cases hK
        exact ⟨x, k, _, hk0, hM, rfl⟩
    rintro B ⟨x, k, K, hx, hk, hK, rfl⟩ _
    by_cases hxi : x = id
    · subst hxi
      rw [hφ] at hK; cases hK
      rw [hLB]; exact hliveb
    · obtain ⟨M, hM, hM', _, _, hk0⟩ := hother x k (hok x) hxi hk
      rw [hM'] at hK; cases hK
      exact ⟨x, k, _, by rw [← hro_of_lo hlo x]; exact hx, hk0, hM, rfl⟩

/-- a block is given up -/
theorem RW.del (hR : RW G φ e h nx w) {b : Nat} (hb : HOk b) : RW G φ e (hdel h b) nx w ∧ (∀ B, Live φ (hdel h b) B → Live φ h B) ∧ ∀ B, Here φ (hdel h b) B → Here φ h B := by
  refine ⟨⟨fun x k hx hk => hR.live x k hx (hget_hdel hx hb hk).2, fun x y k k' K K' hx hy hk hk' hK hK' hne hro => hR.sep x y k k' K K' hx hy (hget_hdel hx hb hk).2 (hget_hdel hy hb hk').2 hK hK' hne (by rw [← hro_of_lo (hdel_lo h b) x]; exact hro), hR.dom, hR.gl, fun x k K hk hK hro => hR.exo x k K (hget_hdel (hok x) hb hk).2 hK (by rw [← hro_of_lo (hdel_lo h b) x]; exact hro), hR.exb⟩, ?_, ?_⟩
  rotate_left
  · rintro B ⟨x, k, K, hk, hK, rfl⟩
    exact ⟨x, k, K, (hget_hdel (hok x) hb hk).2, hK, rfl⟩
  rintro B ⟨x, k, K, hx, hk, hK, rfl⟩
  exact ⟨x, k, K, by rw [← hro_of_lo (hdel_lo h b) x]; exact hx, (hget_hdel (hok x) hb hk).2, hK, rfl⟩

theorem one_cells {vs : List AV} {us : List Value} (h : VRL φ e vs us) (ha : allOne vs = true) : ∀ u ∈ us, u.oneCell' = true := by
  induction vs generalizing us with
  | nil => cases h; simp
  | cons v vs ih =>
    cases h with
    | cons _ _ u us hv t =>
      obtain ⟨h1, h2⟩ := andB_true ha
      intro x hx
      rcases List.mem_cons.1 hx with rfl | hx
      · cases hv <;> first | rfl | assumption | cases h1
      · exact ih t h2 x hx

/-- the cells of a row behind a store -/
theorem splice_row {c : Array Value} {us : List Value} {at' : Nat} (hfit : at' + us.length ≤ c.size) (i : Nat) :
    (c.toList.take at' ++ us ++ c.toList.drop (at' + us.length)).toArray[i]? = if at' ≤ i ∧ i < at' + us.length then us[i - at']? else c[i]? := by
  have hl : c.toList.length = c.size := Array.length_toList
  rw [← Array.getElem?_toList (xs := c)]
  simp only [List.getElem?_toArray]
  by_cases h1 : i < at'
  · rw [if_neg (by omega), List.append_assoc, List.getElem?_append_left (by simp; omega)]
    simp [h1]
  · by_cases h2 : i < at' + us.length
    · rw [if_pos ⟨by omega, h2⟩, List.append_assoc, List.getElem?_append_right (by simp; omega), List.getElem?_append_left (by simp; omega)]
      congr 1; simp; omega
    · rw [if_neg (by omega), List.getElem?_append_right (by simp; omega), List.getElem?_drop]
      congr 1; simp; omega

theorem putCells_ok (hR : RW G φ e h nx w) {b o n : Nat} {L : Loc} {vs : List AV} {us : List Value} (hL : φ b = some L) (hp : putCells h b o n vs = some h') (hv : VRL φ e vs us) :
    vs.length = n ∧ ∃ w', (storeCells ⟨L.B, L.O + o, none⟩ us).run P w = .ok () w' ∧ RW G φ e h' nx w' ∧ Frame φ h w φ h' w' := by
  obtain ⟨h1, h20⟩ := guardB_some hp
  obtain ⟨hmut0, h2⟩ := guardB_some h20
  have hmut : hro h b = false := by
    cases hq : hro h b with
    | false => rfl
    | true => rw [hq] at hmut0; cases hmut0
  obtain ⟨h3, h4⟩ := andB_true h1
  have h3 := natBeq h3
  rw [llen_eq] at h3
  refine ⟨h3, ?_⟩
  obtain ⟨blk, hb, h5⟩ := ob_some (x := hget h b) h2
  obtain ⟨cs, hq, h6⟩ := onCells_some h5
  subst hq
  obtain ⟨cs', hcs', h7⟩ := ob_some (x := lsplice o vs cs) h6
  cases h7
  obtain ⟨hbn, hb6⟩ := hR.dom b L hL
  obtain ⟨L0, hL0, hB⟩ := hR.live b _ hb6 hb
  rw [hL] at hL0; cases hL0
  obtain ⟨c, t, lo, hi, hc1, hc2, hc3, hc4, hc5⟩ := hB
  obtain ⟨hle, _⟩ := lsplice_some o hcs'
  have hlen : us.length = vs.length := hv.length.symm
  have hfit : L.O + o + us.length ≤ c.size := by omega
  have hrun := store_run (P := P) L.B (L.O + o) t (lo, hi) us 0 c w hc1 (by omega) (by rw [hc2]; exact hc4 (hR.exo b _ L hb hL hmut)) (one_cells hv h4)
  simp only [Nat.add_zero] at hrun
  refine ⟨_, hrun, ?_⟩
  refine hR.turn (L' := L) hb6 hb hL rfl hb6 hL (fun _ _ => rfl) (fun _ _ h => h) (hget_hset _ _ _) (fun x k hx hne hk => ⟨hne, by rwa [hget_hset_ne hx hb6 hne] at hk⟩) (setRow_size _ _ _) (fun B hB => setRow_other w L.B B _ hB) rfl rfl rfl ?_ hbn (Nat.le_refl _) hmut (hset_lo _ _ _)
  have hsz : (c.toList.take (L.O + o) ++ us ++ c.toList.drop (L.O + o + us.length)).toArray.size = c.size := by
    have hl : c.toList.length = c.size := Array.length_toList
    simp only [List.size_toArray, List.length_append, List.length_take, List.length_drop, hl]
    omega
  refine ⟨_, t, lo, hi, setRow_heap w L.B c _ t (lo, hi) hc1, by rw [hsz, hc2], by rw [lsplice_length o hcs']; exact hc3, hc4, fun i v hi' => ?_⟩
  rw [lsplice_get o hcs' i] at hi'
  rw [splice_row hfit]
  by_cases hin : o ≤ i ∧ i < o + vs.length
  · rw [if_pos hin] at hi'
    rw [if_pos (by omega)]
    obtain ⟨u, hu, hr⟩ := hv.get hi'
    exact ⟨u, by rw [show L.O + i - (L.O + o) = i - o by omega]; exact hu, hr⟩
  · rw [if_neg hin] at hi'
    rw [if_neg (by omega)]
    exact hc5 i v hi'

/-- nothing is asked of runs that outgrow: none does -/
def LetsA (_ : Exit → Act → World → Prop) : Prop := True
/-- what comes of an operation: each outcome, and what follows it -/
def UponOk (P : Program) (o : Oper) (a : Act) (res : Result Next) (R RP : Value → World → Prop) : Prop :=
  ∀ (next : Act → World → Prop) (Q : Exit → Act → World → Prop), (∀ v w', R v w' → next (a.put o.dst v) w') → (∀ u w', RP u w' → Q (.panic [{ v := u, recovered := false }]) a w') → LetsA Q →
    o.upon P a next Q res

def RVal (G : Nat) (φ : Ph) (e : Syms) (h : Heap) (nx : Nat) (w : World) (id : Nat) (r : ARes) (v : Value) (w' : World) : Prop :=
  ∃ av φ' h' nx', r = .val av h' nx' ∧ Post G φ e h nx w id φ' h' nx' w' ∧ VR φ' e av v
def RPan (G : Nat) (φ : Ph) (e : Syms) (h : Heap) (nx : Nat) (w : World) (id : Nat) (r : ARes) (v : Value) (w' : World) : Prop :=
  ∃ av φ' h' nx', r = .pan av h' nx' ∧ Post G φ e h nx w id φ' h' nx' w' ∧ VR φ' e av v

/-- a callee answers as the executor's does -/
def CallOk (P : Program) (call : CallF) : Prop :=
  ∀ {φ : Ph} {e : Syms} {h : Heap} {nx : Nat} {w : World} {f : FuncId} {args : List AV} {xs : Array Value} {r : CRes} {ar : ARes} (o : Oper) (a : Act), RW P.globals.size φ e h nx w → VRL φ e args xs.toList →
    call f args h nx = some r → resR r = some ar → UponOk P o a ((callFunc f xs).run P w) (RVal P.globals.size φ e h nx w nx ar) (RPan P.globals.size φ e h nx w nx ar)

def COk (P : Program) (cx : Cx) (f : AC) (o : Oper) : Prop :=
  ∀ {φ : Ph} {e : Syms} {N : Nat} {nv : Env} {tm : TM} {A : Act} {h : Heap} {nx : Nat} {w : World} {id : Nat} {call : CallF} {r : ARes},
    CallOk P call → AR φ e N cx nv tm A → RW P.globals.size φ e h nx w → φ id = none → id ≤ nx → f.run call nv tm h id nx = some r →
      UponOk P o A ((execOp A.eval o).run P w) (RVal P.globals.size φ e h nx w id r) (RPan P.globals.size φ e h nx w id r)

theorem upon_val {o : Oper} {a : Act} {u : Value} {R RP : Value → World → Prop} (h : R u w') : UponOk P o a (.ok (.value u) w') R RP := fun _ _ hn _ _ => hn _ _ h
theorem upon_skip {o : Oper} {a : Act} {R RP : Value → World → Prop} (h : R undef w') : UponOk P o a (.ok .skip w') R RP := fun _ _ hn _ _ => hn _ _ h
theorem upon_pan {o : Oper} {a : Act} {u : Value} {R RP : Value → World → Prop} (h : RP u w') : UponOk P o a (.halt (.panic u) w') R RP := fun _ _ _ hq _ => hq _ _ h

theorem cNo_ok (o : Oper) : COk P cx cNo o := by
  intro φ e N nv tm A h nx w id call r _ _ _ _ _ hv; cases hv

theorem VR.undef' : VR φ e (.tuple []) undef := .tuple' .nil

theorem run_u {s : Sem Unit} {w w' : World} (h : s.run P w = .ok () w') : (do s; pure Next.skip : Sem Next).run P w = .ok .skip w' := by simp [h]

variable (hG : cx.G ≤ P.globals.size)
include hG

theorem cStore_ok {o : Oper} {t : TypeId} {a x : Operand} (ho : o.op = .store t a x) : COk P cx (cStoreT (szT P t) (cO cx a) (cO cx x)) o := by
  intro φ e N nv tm A h nx w id call r hcall hA hR hid hle hv
  unfold cStoreT at hv
  split at hv
  · rename_i n hs
    obtain ⟨p, hp, h1⟩ := ob_some (x := (cO cx a).run nv tm) hv
    obtain ⟨y, hy, h2⟩ := ob_some (x := (cO cx x).run nv tm) h1
    obtain ⟨b, off, hq, h3⟩ := onPtr_some h2
    subst hq
    obtain ⟨h', hput, h4⟩ := ob_some (x := putCells h b off n (cellsA y)) h3
    cases h4
    obtain ⟨L, hL, hpe⟩ := (op_ok hG hA hR.rv hp).inv_ptr
    have hyr := op_ok hG hA hR.rv hy
    obtain ⟨hlen, w', hrun, hR', hF⟩ := putCells_ok (P := P) hR hL hput hyr.cells
    have hsz : (A.eval x).cells.size = n := by rw [← Array.length_toList, ← hyr.cells.length, hlen]
    have : (execOp A.eval o).run P w = .ok .skip w' := by
      simp only [execOp, ho]
      refine run_u ?_
      rw [hpe]
      simp [Instr.storeAt, Instr.sureAddr, storeVar, szT_some hs, hsz, hrun]
    rw [this]
    exact upon_skip ⟨.tuple [], φ, h', nx, rfl, ⟨fun _ _ _ => rfl, fun _ _ h => h, Nat.le_refl _, hF, hR'⟩, VR.undef'⟩
  · cases hv
end
end Go.AE

/-
A symbolic executor: append and copy.
-/
namespace Go.AE

section
variable {P : Program} {cx : Cx} {φ φ' : Ph} {e : Syms} {N : Nat} {nv : Env} {tm : TM} {A : Act} {h h1 : Heap} {nx nx' : Nat} {w w' : World} {G : Nat}

theorem grow_post (hR1 : RW G φ e h1 nx w) (hlo1 : h1.lo = h.lo) (hl1 : ∀ B, Live φ h1 B → Live φ h B) (hh1 : ∀ B, Here φ h1 B → Here φ h B) {id : Nat} (hid : φ id = none) (hle : id ≤ nx) (hlt : HOk id) {cs : List AV} {us : List Value}
    (hcs : VRL φ e cs us) {row : Array Value} {t : TypeId} {n cap sz : Nat} (hpre : ∀ (i : Nat) (u : Value), us[i]? = some u → row[i]? = some u) (hrow : row.size = cap * sz) (hn : n ≤ cap) :
    Post G φ e h nx w id (upd φ id ⟨w.heap.size, 0, cap * sz⟩) (hset h1 id (.cells cs)) (Nat.succ nx) (w.drew.alloc (.cells row t)) ∧
      VR (upd φ id ⟨w.heap.size, 0, cap * sz⟩) e (.slice id 0 n none sz) (.slice (some ⟨w.heap.size, 0, none⟩) n cap) := by
  have hB : BR (upd φ id ⟨w.heap.size, 0, cap * sz⟩) e (w.drew.alloc (.cells row t)) ⟨w.heap.size, 0, cap * sz⟩ (.cells cs) :=
    BR.row (cells := row) (t := t) (lo := 0) (hi := 0) (heap_alloc_new w.drew _) rfl hrow (fun i _ hh => by omega) (hcs.mono (upd_le hid)) hpre
  obtain ⟨h2, h3⟩ := hR1.fresh (nx' := Nat.succ nx) hid hlt (by omega) (by omega) (Fresh.allocDrew w _) rfl hB
  refine ⟨⟨fun b _ hb => upd_ne _ _ hb, upd_le hid, Nat.le_succ nx, ?_, h2⟩, .sliceU id 0 n cap sz _ (upd_self _ _ _) hn (by simp)⟩
  exact Frame.trans ⟨Nat.le_refl _, fun _ _ _ => rfl, fun B hB _ => hl1 B hB, rfl, rfl, rfl, hlo1, fun B hB _ => hh1 B hB⟩ h3

theorem append_args {ts : Array TypeId} {t u ty : TypeId} (h0 : ts[0]? = some t) (h1 : ts[1]? = some u) (args : Array Value) : (Builtin.append_ ts ty args).run P w = (Builtin.append_ #[t, u] ty args).run P w := by
  simp [Builtin.append_, h0, h1]
theorem copy_args {ts : Array TypeId} {t ty : TypeId} (h0 : ts[0]? = some t) (args : Array Value) : (Builtin.copy_ ts ty args).run P w = (Builtin.copy_ #[t, t] ty args).run P w := by
  simp [Builtin.copy_, h0]

theorem undO_tail {l : Array TypeId} {d : TypeDesc} (h : undO P (headO l.toList.tail) = some d) : ∃ t, l[1]? = some t ∧ P.underlying t = some d := by
  obtain ⟨t, ht, h⟩ := ob_some (x := headO l.toList.tail) h
  refine ⟨t, ?_, h⟩
  rw [← Array.getElem?_toList]
  cases hl : l.toList with
  | nil => rw [hl] at ht; cases ht
  | cons a r => cases r with
    | nil => rw [hl] at ht; cases ht
    | cons b r => rw [hl] at ht; cases ht; rfl

theorem size_zeros (z : Array Value) (n : Nat) : (Builtin.zeroCells z n).size = n * z.size := by simp [Builtin.zeroCells]

/-- a row that has grown: the old cells, the new ones, zeros -/
theorem grown_row {olds news : List Value} {z : Array Value} {m need cap sz : Nat} (hl : (olds ++ news).length = need * sz) (hz : z.size = sz) (hm : m = cap - need) (hc : need ≤ cap) :
    (olds.toArray ++ news.toArray ++ Builtin.zeroCells z m).size = cap * sz ∧ ∀ (i : Nat) (u : Value), (olds ++ news)[i]? = some u → (olds.toArray ++ news.toArray ++ Builtin.zeroCells z m)[i]? = some u := by
  constructor
  · rw [List.length_append] at hl
    simp only [Array.size_append, List.size_toArray, size_zeros, hz, hl, hm, ← Nat.add_mul]
    congr 1; omega
  · intro i u hu
    have hi := (List.getElem?_eq_some_iff.1 hu).1
    rw [Array.getElem?_append_left (by simpa using hi)]
    rw [← hu]
    simp

theorem fits48 {need old bytes : Nat} (h : old < need) (hb : bytes < 100000) (hn : need < 1000000) : Builtin.nextslicecap need old * bytes ≤ 281474976710656 := by
  refine growslice_fits h ?_
  have : need * bytes ≤ 1000000 * 100000 := Nat.mul_le_mul (by omega) (by omega)
  omega

theorem rowAt_len {h : Heap} {b o n : Nat} {cs : List AV} (hr : rowAt h b o n = some cs) : cs.length = n := by
  obtain ⟨blk, hb, h1⟩ := ob_some (x := hget h b) hr
  obtain ⟨all, hq, h2⟩ := onCells_some h1
  rw [ldrop_eq] at h2
  obtain ⟨h3, h4⟩ := ltake_some n h2
  rw [h4, List.length_take]; omega

section app
variable {t ty el : TypeId} {i : TypeInfo} {z : Value} (ht : P.underlying t = some (.slice el)) (hi : P.info? el = some i) (hz : i.zero = some z) (hzs : z.cells.size = i.size) (hby : i.bytes < 100000)
include ht hi hz hzs hby

theorem app_grow (hR1 : RW G φ e h1 nx w) (hlo1 : h1.lo = h.lo) (hl1 : ∀ B, Live φ h1 B → Live φ h B) (hh1 : ∀ B, Here φ h1 B → Here φ h B) {id : Nat} (hid : φ id = none) (hle : id ≤ nx) {r : ARes}
    {s x : Value} {base : Option Addr} {len cap n b o : Nat} {new : List AV} {news : List Value} (hs : s = .slice base len cap) (hcap : cap < len + n) (hln : ∀ w', (Builtin.lenOf x).run P w' = .ok n w')
    (hnl : news.length = n * i.size) (hnv : VRL φ e new news) (hnr : ∀ w' : World, w'.heap = w.heap → (Builtin.firstCells i.size n x).run P w' = .ok news.toArray w')
    (hold : ∀ old, rowAt h b o (Nat.mul len i.size) = some old → ∃ olds : List Value, olds.length = len * i.size ∧ VRL φ e old olds ∧ ∀ w' : World, w'.heap = w.heap → (Builtin.firstCells i.size len s).run P w' = .ok olds.toArray w')
    (hv : growS h h1 id b o len n i.size nx new = some r) : ∃ u w', (Builtin.append_ #[t, t] ty #[s, x]).run P w = .ok u w' ∧ RVal G φ e h nx w id r u w' := by
  obtain ⟨h2, h3⟩ := guardB_some hv
  have h2 : len + n < 1000000 := natBlt h2
  obtain ⟨old, hold1, h4⟩ := ob_some (x := rowAt h b o (Nat.mul len i.size)) h3
  have h5 : HOk id := hok id
  cases h4
  obtain ⟨olds, ho1, ho2, ho3⟩ := hold old hold1
  subst hs
  have hrun := append_grow (P := P) (w := w) (ty := ty) ht hi hz hln hnr ho3 hcap (by omega) (fits48 hcap hby h2)
  have hge := grownCap_ge w (len + n) cap el
  obtain ⟨h7, h8⟩ := grown_row (olds := olds) (news := news) (z := z.cells) (m := grownCap w (len + n) cap el - (len + n)) (need := len + n) (cap := grownCap w (len + n) cap el) (sz := i.size)
    (by rw [List.length_append, ho1, hnl, Nat.add_mul]) hzs rfl hge
  obtain ⟨h9, h10⟩ := grow_post (t := el) (n := len + n) (sz := i.size) hR1 hlo1 hl1 hh1 hid hle h5 (ho2.append hnv) h8 h7 hge
  refine ⟨_, _, hrun, _, _, _, _, rfl, ?_, h10⟩
  rw [lapp_eq]
  exact h9

theorem app_ok (hR : RW G φ e h nx w) {id : Nat} (hid : φ id = none) (hle : id ≤ nx) {r : ARes} {a b : AV} {s x : Value} (hs : VR φ e a s) (hx : VR φ e b x)
    (hv : appV i.size h id nx a b = some r) : ∃ u w', (Builtin.append_ #[t, t] ty #[s, x]).run P w = .ok u w' ∧ RVal G φ e h nx w id r u w' := by
  obtain ⟨n, hn, h2⟩ := ob_some (x := lenS b) hv
  obtain ⟨h3, h4⟩ := guardB_some h2
  have h3 := natBlt h3
  obtain ⟨new, hnew, h5⟩ := ob_some (x := srcA h i.size n b) h4
  obtain ⟨news, hnl, hnv, hnr⟩ := srcA_ok (P := P) hR hnew hx
  have hln := fun w' => lenS_ok (P := P) hn hx w'
  have same : ∀ {v : AV} {u : Value} {w' : World}, (Builtin.append_ #[t, t] ty #[s, x]).run P w = .ok u w → r = .val v h nx → VR φ e v u →
      ∃ u w', (Builtin.append_ #[t, t] ty #[s, x]).run P w = .ok u w' ∧ RVal G φ e h nx w id r u w' := by
    intro v u _ h6 h7 h8
    exact ⟨u, w, h6, v, φ, h, nx, h7, Post.refl hR id, h8⟩
  unfold appS at h5
  split at h5
  · -- nil
    rw [hs.inv_nilslice]
    cases hb : Nat.beq n 0 with
    | true =>
      rw [hb] at h5; cases h5
      have hn0 := natBeq hb
      subst hn0
      have hn0 : news = [] := List.eq_nil_of_length_eq_zero (by simpa using hnl)
      subst hn0
      have := append_room (P := P) (w := w) (ty := ty) ht hi (base := none) (sLen := 0) (sCap := 0) (news := []) (w' := w) hln (hnr w rfl) (Nat.le_refl _) rfl
      rw [hs.inv_nilslice] at same
      exact same (w' := w) this rfl .nilslice
    | false =>
      rw [hb] at h5
      have hn0 := natBeq_false hb
      have h6 : HOk id := hok id
      cases h5
      have hrun := append_grow (P := P) (w := w) (ty := ty) ht hi hz (base := none) (sLen := 0) (sCap := 0) (olds := []) hln hnr (fun w' _ => run_firstCells_none _ _ _ _ _) (by omega) (by omega) (fits48 (by omega) hby (by omega))
      simp only [Nat.zero_add] at hrun
      have hge := grownCap_ge w n 0 el
      obtain ⟨h7, h8⟩ := grown_row (olds := []) (news := news) (z := z.cells) (m := grownCap w n 0 el - n) (need := n) (cap := grownCap w n 0 el) (sz := i.size) (by simpa using hnl) hzs rfl hge
      obtain ⟨h9, h10⟩ := grow_post (t := el) (n := n) (sz := i.size) hR rfl (fun _ h => h) (fun _ h => h) hid hle h6 hnv (by simpa using h8) h7 hge
      exact ⟨_, _, hrun, _, _, _, _, rfl, h9, h10⟩
  · rename_i b' o len cap z'
    obtain ⟨h6, h7⟩ := guardB_some h5
    have h6 := natBeq h6
    subst h6
    have hidb : ∀ {L}, φ b' = some L → b' ≠ id := by intro L hL e; rw [e, hid] at hL; cases hL
    unfold appCap at h7
    split at h7
    · -- the capacity is known
      rename_i c
      rcases hs.inv_slice with ⟨L, c', hL, h8, h9, hse, hc⟩ | ⟨hc, _⟩
      · rcases hc with hc | hc <;> cases hc
        have hb6 := (hR.dom b' L hL).2
        cases hb : Nat.ble (Nat.add len n) c with
        | true =>
          rw [hb] at h7
          have hroom : len + n ≤ c := natBle hb
          obtain ⟨h', hput, h10⟩ := ob_some (x := putCells h b' (Nat.add o (Nat.mul len i.size)) (Nat.mul n i.size) new) h7
          cases h10
          obtain ⟨hlen, w', hrun, hR', hF⟩ := putCells_ok (P := P) hR hL hput hnv
          have := append_room (P := P) (w := w) (ty := ty) ht hi (base := some ⟨L.B, L.O + o, none⟩) (sLen := len) (sCap := c) (news := news) (w' := w') hln (hnr w rfl) hroom
            (by simp only; rw [add_plain, Nat.add_assoc]; exact hrun)
          rw [hse]
          exact ⟨_, _, this, _, φ, h', nx, rfl, ⟨fun _ _ _ => rfl, fun _ _ h => h, Nat.le_refl _, hF, hR'⟩, .slice b' o (len + n) c i.size L hL hroom h9⟩
        | false =>
          rw [hb] at h7
          have hroom : c < len + n := natBle_false hb
          refine app_grow ht hi hz hzs hby hR rfl (fun _ h => h) (fun _ h => h) hid hle hse hroom hln hnl hnv hnr (fun old hold => ?_) h7
          obtain ⟨olds, h10, h11, h12⟩ := rowAt_ok hR hL hold
          refine ⟨olds, h10, h11, fun w' hw' => ?_⟩
          rw [hse]
          refine run_firstCells_some w' i.size len ⟨L.B, L.O + o, none⟩ len c olds h10 fun j u hu => ?_
          rw [add_plain, cell_heap hw']
          exact h12 j u hu
      · cases hc
    · -- the capacity is not known
      cases hb : Nat.beq n 0 with
      | true =>
        rw [hb] at h7; cases h7
        have hn0 := natBeq hb
        subst hn0
        have hn0 : news = [] := List.eq_nil_of_length_eq_zero (by simpa using hnl)
        subst hn0
        rcases hs.inv_slice with ⟨L, c', hL, h8, h9, hse, _⟩ | ⟨_, hl, ad, hse⟩
        · have := append_room (P := P) (w := w) (ty := ty) ht hi (base := some ⟨L.B, L.O + o, none⟩) (sLen := len) (sCap := c') (news := []) (w' := w) hln (hnr w rfl) (by omega) rfl
          rw [hse] at same
          rw [hse]
          exact same (w' := w) this rfl (.sliceU b' o len c' i.size L hL h8 h9)
        · have := append_room (P := P) (w := w) (ty := ty) ht hi (base := some ad) (sLen := 0) (sCap := 0) (news := []) (w' := w) hln (hnr w rfl) (Nat.le_refl _) rfl
          rw [hse] at same
          rw [hse]
          subst hl
          exact same (w' := w) this rfl (.sliceE b' o i.size ad (hs.slice_in hR.rv))
      | false =>
        rw [hb] at h7
        obtain ⟨hone, h70⟩ := guardB_some h7
        obtain ⟨hmut0, h7⟩ := guardB_some h70
        have hmut : hro h b' = false := by
          cases hq : hro h b' with
          | false => rfl
          | true => rw [hq] at hmut0; cases hmut0
        have hn0 := natBeq_false hb
        rcases hs.inv_slice with ⟨L, c', hL, h8, h9, hse, _⟩ | ⟨_, hl, ad, hse⟩
        · have hb6 := (hR.dom b' L hL).2
          obtain ⟨hRd, hld, hhd⟩ := hR.del hb6
          by_cases hroom : len + n ≤ c'
          · -- in place
            obtain ⟨h10, h11⟩ := guardB_some h7
            obtain ⟨old, hold, h12⟩ := ob_some (x := rowAt h b' o (Nat.mul len i.size)) h11
            have h13 : HOk id := hok id
            cases h12
            obtain ⟨blk, hblk, h15⟩ := ob_some (x := hget h b') hold
            obtain ⟨all, hq, h16⟩ := onCells_some h15
            subst hq
            rw [ldrop_eq] at h16
            obtain ⟨h17, h18⟩ := ltake_some _ h16
            obtain ⟨L0, hL0, hB⟩ := hR.live b' _ hb6 hblk
            rw [hL] at hL0; cases hL0
            obtain ⟨c, tt, lo, hi', hc1, hc2, hc3, hc4, hc5⟩ := hB
            have hll : (len + n) * i.size ≤ c' * i.size := Nat.mul_le_mul_right _ hroom
            rw [Nat.add_mul] at hll
            have hrun := store_run (P := P) L.B (L.O + o + len * i.size) tt (lo, hi') news 0 c w hc1 (by omega) (by rw [hc2]; exact hc4 (hR.exo b' _ L hblk hL hmut)) (one_cells hnv hone)
            simp only [Nat.add_zero] at hrun
            have hR2 := append_room (P := P) (w := w) (ty := ty) ht hi (base := some ⟨L.B, L.O + o, none⟩) (sLen := len) (sCap := c') (news := news) hln (hnr w rfl) hroom
              (by simp only; rw [add_plain]; exact hrun)
            rw [hse]
            have hfit : L.O + o + len * i.size + news.length ≤ c.size := by omega
            have hlen : old.length = len * i.size := rowAt_len hold
            have hsz : (c.toList.take (L.O + o + len * i.size) ++ news ++ c.toList.drop (L.O + o + len * i.size + news.length)).toArray.size = c.size := by
              have hl : c.toList.length = c.size := Array.length_toList
              simp only [List.size_toArray, List.length_append, List.length_take, List.length_drop, hl]
              omega
            have hB2 : BR (upd φ id ⟨L.B, L.O + o, L.S⟩) e (w.setRow L.B (c.toList.take (L.O + o + len * i.size) ++ news ++ c.toList.drop (L.O + o + len * i.size + news.length)).toArray) ⟨L.B, L.O + o, L.S⟩ (.cells (lapp old new)) := by
              refine ⟨_, tt, lo, hi', setRow_heap w L.B c _ tt (lo, hi') hc1, by rw [hsz, hc2], ?_, hc4, fun j v hj => ?_⟩
              · rw [lapp_eq, List.length_append, hlen, hnv.length, hnl]
                simp only
                omega
              · rw [lapp_eq] at hj
                rw [splice_row hfit]
                simp only
                by_cases hjl : j < len * i.size
                · rw [List.getElem?_append_left (by omega)] at hj
                  rw [if_neg (by omega)]
                  have hj' : all[o + j]? = some v := by
                    rw [h18] at hj
                    rw [List.getElem?_take] at hj
                    split at hj
                    · rw [List.getElem?_drop] at hj; exact hj
                    · cases hj
                  obtain ⟨u, hu, hr⟩ := hc5 _ _ hj'
                  exact ⟨u, by rw [Nat.add_assoc]; exact hu, hr.mono (upd_le hid)⟩
                · rw [List.getElem?_append_right (by omega), hlen] at hj
                  obtain ⟨u, hu, hr⟩ := hnv.get hj
                  have hju := (List.getElem?_eq_some_iff.1 hu).1
                  rw [if_pos (by omega)]
                  exact ⟨u, by rw [show L.O + o + j - (L.O + o + len * i.size) = j - len * i.size by omega]; exact hu, hr.mono (upd_le hid)⟩
            have hne : b' ≠ id := hidb hL
            obtain ⟨h20, h21⟩ := hR.turn (L' := ⟨L.B, L.O + o, L.S⟩) (nx' := Nat.succ nx) (φ' := upd φ id ⟨L.B, L.O + o, L.S⟩) (h' := hset (hdel h b') id (.cells (lapp old new))) hb6 hblk hL rfl h13 (upd_self _ _ _) (fun x hx => upd_ne _ _ hx) (upd_le hid)
              (hget_hset _ _ _) (fun x k hx hxi hk => by rw [hget_hset_ne hx h13 hxi] at hk; exact hget_hdel hx hb6 hk) (setRow_size _ _ _) (fun B hB => setRow_other w L.B B _ hB) rfl rfl rfl hB2 (by omega) (by omega) hmut (by rw [hset_lo, hdel_lo])
            exact ⟨_, _, hR2, _, _, _, _, rfl, ⟨fun b _ hb => upd_ne _ _ hb, upd_le hid, Nat.le_succ nx, h21, h20⟩, .sliceU id 0 (len + n) c' i.size _ (upd_self _ _ _) hroom (by simpa using h9)⟩
          · refine app_grow ht hi hz hzs hby hRd (hdel_lo _ _) hld hhd hid hle hse (by omega) hln hnl hnv hnr (fun old hold => ?_) h7
            obtain ⟨olds, h10, h11, h12⟩ := rowAt_ok hR hL hold
            refine ⟨olds, h10, h11, fun w' hw' => ?_⟩
            rw [hse]
            refine run_firstCells_some w' i.size len ⟨L.B, L.O + o, none⟩ len c' olds h10 fun j u hu => ?_
            rw [add_plain, cell_heap hw']
            exact h12 j u hu
        · subst hl
          have hb6 := hs.slice_in hR.rv
          obtain ⟨hRd, hld, hhd⟩ := hR.del hb6
          refine app_grow ht hi hz hzs hby hRd (hdel_lo _ _) hld hhd hid hle hse (by omega) hln hnl hnv hnr (fun old hold => ?_) h7
          have h20 := rowAt_len hold
          rw [show Nat.mul 0 i.size = 0 from Nat.zero_mul _] at h20
          have h21 : old = [] := List.eq_nil_of_length_eq_zero h20
          subst h21
          refine ⟨[], by simp, .nil, fun w' _ => ?_⟩
          rw [hse]
          exact run_firstCells_some w' i.size 0 ad 0 0 [] (by simp) (fun j u hu => by cases hu)
  · cases h5
end app
end
end Go.AE

/-
A symbolic executor: append and copy as operations, maps, panics, calls.
-/
namespace Go.AE

section
variable {P : Program} {cx : Cx} {φ φ' : Ph} {e : Syms} {N : Nat} {nv : Env} {tm : TM} {A : Act} {h h1 : Heap} {nx nx' : Nat} {w w' : World} {G : Nat}

theorem sz_info {t : TypeId} {n : Nat} (h : szT P t = some n) : ∃ i, P.info? t = some i ∧ i.size = n := by
  obtain ⟨i, hi, h⟩ := ob_some (x := P.info? t) h
  cases h
  exact ⟨i, hi, rfl⟩

variable (hG : cx.G ≤ P.globals.size)
include hG

theorem cApp_ok {o : Oper} {c : Call} (ho : o.op = .call c) (hc : c.callee = .builtin .append) {a b : Operand} (ha : c.args = #[a, b]) :
    COk P cx (cAppT P (undO P (headO c.argTypes.toList)) (undO P (headO c.argTypes.toList.tail)) (cO cx a) (cO cx b)) o := by
  intro φ e N nv tm A h nx w id call r hcall hA hR hid hle hv
  unfold cAppT at hv
  split at hv
  · rename_i el hst
    obtain ⟨t, h0, ht⟩ := undO_head hst
    split at hv
    · cases hv
    · rename_i xd hxd hxt
      obtain ⟨u, h1, hu⟩ := undO_tail hxt
      split at hv
      · rename_i sz by' zv hs hb hz
        cases hg : andB (Nat.blt by' 100000) (Nat.beq (llen (cellsA zv)) (sz + 1)) with
        | false => rw [hg] at hv; cases hv
        | true =>
          rw [hg] at hv
          obtain ⟨h2, h3⟩ := andB_true hg
          have h2 := natBlt h2
          have h3 := natBeq h3
          rw [llen_eq] at h3
          obtain ⟨i, hi, hs1⟩ := sz_info hs
          obtain ⟨i', hi', hb1⟩ := ob_some (x := P.info? el) hb
          rw [hi] at hi'; cases hi'
          cases hb1
          obtain ⟨i', hi', hz1⟩ := ob_some (x := P.info? el) hz
          rw [hi] at hi'; cases hi'
          obtain ⟨zval, hzv, hz2⟩ := ob_some (x := i.zero) hz1
          have hzr : VR φ e zv zval := ofValue_ok 4 hz2
          have hzs : zval.cells.size = i.size := by rw [← Array.length_toList, ← hzr.cells.length, h3, hs1]
          obtain ⟨x, hx, h4⟩ := ob_some (x := (cO cx a).run nv tm) hv
          obtain ⟨y, hy, h5⟩ := ob_some (x := (cO cx b).run nv tm) h4
          rw [show sz + 1 = i.size from hs1.symm] at h5
          obtain ⟨uv, w', hrun, hval⟩ := app_ok (P := P) (ty := o.type) ht hi hzv hzs h2 hR hid hle (op_ok hG hA hR.rv hx) (op_ok hG hA hR.rv hy) h5
          have : (execOp A.eval o).run P w = .ok (.value uv) w' := by
            rw [run_builtin ho hc, ha, show Array.map A.eval #[a, b] = #[A.eval a, A.eval b] by simp]
            refine run_v ?_
            rw [append_args h0 h1, append_same ht hu (fun k e => hxd k (by rw [e])), hrun]
          rw [this]
          exact upon_val hval
      · cases hv
    · cases hv
  · cases hv

omit hG in
theorem copyV_ok {t ty el : TypeId} {i : TypeInfo} (ht : P.underlying t = some (.slice el)) (hi : P.info? el = some i) (hR : RW G φ e h nx w) {id : Nat} {r : ARes} {a b : AV} {d x : Value}
    (hd : VR φ e a d) (hx : VR φ e b x) (hv : copyV i.size h nx b a = some r) : ∃ u w', (Builtin.copy_ #[t, t] ty #[d, x]).run P w = .ok u w' ∧ RVal G φ e h nx w id r u w' := by
  unfold copyV at hv
  split at hv
  · obtain ⟨n, hn, h1⟩ := ob_some (x := lenS b) hv
    cases h1
    rw [hd.inv_nilslice]
    have hln := lenS_ok (P := P) hn hx w
    have hmin : Nat.min n 0 = 0 := Nat.min_eq_right (Nat.zero_le _)
    have hnews : ∃ us : List Value, (Builtin.firstCells i.size (Nat.min n 0) x).run P w = .ok us.toArray w := by
      rw [hmin]
      unfold lenS at hn
      split at hn
      · rw [hx.inv_nilslice]; exact ⟨[], run_firstCells_none _ _ _ _ _⟩
      · rcases hx.inv_slice with ⟨L, c, _, _, _, hxe, _⟩ | ⟨_, hl, ad, hxe⟩
        · rw [hxe]; exact ⟨[], run_firstCells_some w i.size 0 _ _ _ [] (by simp) (fun j u hu => by cases hu)⟩
        · rw [hxe]; exact ⟨[], run_firstCells_some w i.size 0 _ _ _ [] (by simp) (fun j u hu => by cases hu)⟩
      · obtain ⟨s, hxe, _⟩ := hx.inv_str
        rw [hxe]
        exact ⟨((s.extract 0 0).data.map fun b => Value.int .u8 (b.toNat : Int)).toList, by rw [Array.toArray_toList]; rfl⟩
      · cases hn
    obtain ⟨us, hus⟩ := hnews
    have := copy_run (P := P) (w := w) (ty := ty) (u := t) ht hi (base := none) (dLen := 0) (dCap := 0) (news := us) (w' := w) hln hus rfl
    rw [hmin] at this
    exact ⟨_, _, this, .int .i64 (.ofNat 0), φ, h, nx, rfl, Post.refl hR id, .int _ _⟩
  · rename_i b' o len cap z'
    obtain ⟨h1, h2⟩ := guardB_some hv
    have h1 := natBeq h1
    subst h1
    obtain ⟨m, hm, h3⟩ := ob_some (x := lenS b) h2
    obtain ⟨new, hnew, h4⟩ := ob_some (x := srcA h i.size (mnN m len) b) h3
    obtain ⟨h', hput, h5⟩ := ob_some (x := putCells h b' o (Nat.mul (mnN m len) i.size) new) h4
    cases h5
    have hmn : mnN m len = Nat.min m len := by
      unfold mnN
      cases hb : Nat.ble m len with
      | true => rw [sel_true]; exact (Nat.min_eq_left (natBle hb)).symm
      | false => rw [sel_false]; exact (Nat.min_eq_right (Nat.le_of_lt (natBle_false hb))).symm
    rw [hmn] at hnew hput ⊢
    obtain ⟨news, hnl, hnv, hnr⟩ := srcA_ok (P := P) hR hnew hx
    have hln := lenS_ok (P := P) hm hx w
    rcases hd.inv_slice with ⟨L, c', hL, h8, h9, hde, _⟩ | ⟨_, hl, ad, hde⟩
    · obtain ⟨hlen, w', hrun, hR', hF⟩ := putCells_ok (P := P) hR hL hput hnv
      have := copy_run (P := P) (w := w) (ty := ty) (u := t) ht hi (base := some ⟨L.B, L.O + o, none⟩) (dLen := len) (dCap := c') (news := news) (w' := w') hln (hnr w rfl) hrun
      rw [hde]
      exact ⟨_, _, this, _, φ, h', nx, rfl, ⟨fun _ _ _ => rfl, fun _ _ h => h, Nat.le_refl _, hF, hR'⟩, .int _ _⟩
    · subst hl
      have hmin : Nat.min m 0 = 0 := Nat.min_eq_right (Nat.zero_le _)
      rw [hmin] at hnl hnr hput
      have hn0 : news = [] := List.eq_nil_of_length_eq_zero (by simpa using hnl)
      subst hn0
      have := copy_run (P := P) (w := w) (ty := ty) (u := t) ht hi (base := some ad) (dLen := 0) (dCap := 0) (news := []) (w' := w) hln (by rw [hmin]; exact hnr w rfl) rfl
      rw [hde]
      -- nothing is written, so the memory is as it was
      cases hnv
      obtain ⟨h10, h110⟩ := guardB_some hput
      obtain ⟨hmut, h11⟩ := guardB_some h110
      obtain ⟨blk, hblk, h12⟩ := ob_some (x := hget h b') h11
      obtain ⟨all, hq, h13⟩ := onCells_some h12
      subst hq
      obtain ⟨cs', hcs', h14⟩ := ob_some (x := lsplice o [] all) h13
      cases h14
      have hb6 := hd.slice_in hR.rv
      obtain ⟨L, hL, hB⟩ := hR.live b' _ hb6 hblk
      have hcs : cs' = all := by
        apply List.ext_getElem?
        intro j
        rw [lsplice_get o hcs' j]
        simp
        omega
      subst hcs
      obtain ⟨h15, h16⟩ := hR.turn (L' := L) (nx' := nx) (φ' := φ) (h' := hset h b' (.cells cs')) (w' := w) hb6 hblk hL rfl hb6 hL (fun _ _ => rfl) (fun _ _ h => h) (hget_hset _ _ _)
        (fun x k hx hne hk => ⟨hne, by rwa [hget_hset_ne hx hb6 hne] at hk⟩) rfl (fun _ _ => rfl) rfl rfl rfl hB (hR.dom b' L hL).1 (Nat.le_refl _) (notB_hro hmut) (hset_lo _ _ _)
      rw [hmin] at this
      exact ⟨_, _, this, .int .i64 (.ofNat (Nat.min m 0)), φ, _, nx, rfl, ⟨fun _ _ _ => rfl, fun _ _ h => h, Nat.le_refl _, h16, h15⟩, by rw [hmin]; exact .int _ _⟩
  · cases hv

theorem cCopy_ok {o : Oper} {c : Call} (ho : o.op = .call c) (hc : c.callee = .builtin .copy) {a b : Operand} (ha : c.args = #[a, b]) :
    COk P cx (cCopyT P (undO P (headO c.argTypes.toList)) (cO cx a) (cO cx b)) o := by
  intro φ e N nv tm A h nx w id call r hcall hA hR hid hle hv
  unfold cCopyT at hv
  split at hv
  · rename_i el hst
    obtain ⟨t, h0, ht⟩ := undO_head hst
    split at hv
    · rename_i sz hs
      obtain ⟨i, hi, hs1⟩ := sz_info hs
      obtain ⟨x, hx, h4⟩ := ob_some (x := (cO cx a).run nv tm) hv
      obtain ⟨y, hy, h5⟩ := ob_some (x := (cO cx b).run nv tm) h4
      rw [show sz + 1 = i.size from hs1.symm] at h5
      obtain ⟨uv, w', hrun, hval⟩ := copyV_ok (P := P) (ty := o.type) (id := id) ht hi hR (op_ok hG hA hR.rv hx) (op_ok hG hA hR.rv hy) h5
      have : (execOp A.eval o).run P w = .ok (.value uv) w' := by
        rw [run_builtin ho hc, ha, show Array.map A.eval #[a, b] = #[A.eval a, A.eval b] by simp]
        refine run_v ?_
        rw [copy_args h0, hrun]
      rw [this]
      exact upon_val hval
    · cases hv
  · cases hv

theorem cPanic_ok {o : Oper} {x : Operand} (ho : o.op = .panic x ∨ ∃ c, o.op = .call c ∧ c.callee = .builtin .panic ∧ c.args = #[x]) : COk P cx (cPanic (cO cx x)) o := by
  intro φ e N nv tm A h nx w id call r hcall hA hR hid hle hv
  obtain ⟨y, hy, h1⟩ := ob_some (x := (cO cx x).run nv tm) hv
  obtain ⟨t, v, hq, h2⟩ := onIface_some h1
  subst hq; cases h2
  have hyr := op_ok hG hA hR.rv hy
  obtain ⟨u, hxe, hu⟩ := hyr.inv_iface
  have : (execOp A.eval o).run P w = .halt (.panic (.iface t u)) w := by
    rcases ho with ho | ⟨c, ho, hc, ha⟩
    · simp only [execOp, ho, hxe]
      simp [Instr.panic, goPanic, Sem.run]
    · rw [run_builtin ho hc, ha, show Array.map A.eval #[x] = #[A.eval x] by simp]
      simp only [builtin, hxe]
      simp [Instr.panic, goPanic, Sem.run]
  rw [this]
  exact upon_pan ⟨_, φ, h, nx, rfl, Post.refl hR id, .iface _ _ _ hu⟩
end
end Go.AE

/-
A symbolic executor: what is put into maps, calls.
-/
namespace Go.AE

section
variable {P : Program} {cx : Cx} {φ φ' : Ph} {e : Syms} {N : Nat} {nv : Env} {tm : TM} {A : Act} {h h1 : Heap} {nx nx' : Nat} {w w' : World} {G : Nat}

/-! maps -/
theorem same1_ok {a b : AV} {x y : Value} (h : same1 a b = true) (hx : VR φ e a x) (hy : VR φ e b y) (n : Nat) : Instr.sameBits n x y = true := by
  unfold same1 at h
  split at h
  · split at h
    · cases hx; cases hy
      simpa [Instr.sameBits] using h
    · cases h
  · split at h
    · obtain ⟨h1, h2⟩ := andB_true h
      have h1 := beqK_eq h1
      rw [eqI_eq] at h2
      cases hx; cases hy
      simpa [Instr.sameBits, h1] using h2
    · cases h
  · split at h
    · obtain ⟨s, rfl, hs⟩ := hx.inv_str
      obtain ⟨s', rfl, hs'⟩ := hy.inv_str
      rw [strEq_eq, ← hs, ← hs'] at h
      simp only [Instr.sameBits, byteBeq]
      rw [beq_iff_eq] at h ⊢
      exact Array.toList_inj.1 h
    · cases h
  · cases h

theorem sameL_ok (n : Nat) : ∀ {l m : List AV} {xs ys : List Value}, sameL l m = true → VRL φ e l xs → VRL φ e m ys → xs.length = ys.length ∧ ((xs.zip ys).all fun (x, y) => Instr.sameBits n x y) = true := by
  intro l
  induction l with
  | nil =>
    intro m xs ys h hx hy
    cases hx
    cases hy with
    | nil => simp
    | cons => cases h
  | cons a l ih =>
    intro m xs ys h hx hy
    cases hx with
    | cons _ _ x xs hx1 hx2 =>
      cases hy with
      | nil => cases h
      | cons b m y ys hy1 hy2 =>
        obtain ⟨h1, h2⟩ := andB_true h
        obtain ⟨h3, h4⟩ := ih h2 hx2 hy2
        refine ⟨by simp [h3], ?_⟩
        rw [List.zip_cons_cons, List.all_cons]
        simp only [same1_ok h1 hx1 hy1 n, Bool.true_and]
        exact h4

theorem sameK_ok {a b : AV} {x y : Value} (h : sameK a b = true) (hx : VR φ e a x) (hy : VR φ e b y) (n : Nat) : Instr.sameBits (n + 1) x y = true := by
  unfold sameK at h
  split at h
  · split at h
    · obtain ⟨xs, rfl, hx'⟩ := hx.inv_agg
      obtain ⟨ys, rfl, hy'⟩ := hy.inv_agg
      obtain ⟨h1, h2⟩ := sameL_ok n h hx' hy'
      rw [Array.length_toList, Array.length_toList] at h1
      simp only [Instr.sameBits, h1, h2, beq_self_eq_true, Bool.and_true]
    · cases h
  · exact same1_ok h hx hy _

theorem sameBits_symm1 {a b : AV} (h : same1 a b = true) : same1 b a = true := by
  unfold same1 at h
  split at h
  · split at h
    · simp only [same1]
      rw [beq_iff_eq] at h ⊢
      exact h.symm
    · cases h
  · split at h
    · obtain ⟨h1, h2⟩ := andB_true h
      have h1 := beqK_eq h1
      subst h1
      rw [eqI_eq] at h2
      have h2 := beq_iff_eq.1 h2
      subst h2
      have e1 : ∀ k, beqK k k = true := by intro k; cases k <;> rfl
      simp only [same1, e1, eqI_eq, beq_self_eq_true]
    · cases h
  · split at h
    · simp only [same1]
      rw [strEq_eq] at h ⊢
      rw [beq_iff_eq] at h ⊢
      exact h.symm
    · cases h
  · cases h
theorem sameL_symm : ∀ {l m : List AV}, sameL l m = true → sameL m l = true := by
  intro l
  induction l with
  | nil => intro m h; cases m with
    | nil => rfl
    | cons => cases h
  | cons a l ih =>
    intro m h
    cases m with
    | nil => cases h
    | cons b m =>
      obtain ⟨h1, h2⟩ := andB_true h
      show andB (same1 b a) (sameL m l) = true
      rw [sameBits_symm1 h1, ih h2]
theorem sameK_symm {a b : AV} (h : sameK a b = true) : sameK b a = true := by
  unfold sameK at h
  split at h
  · split at h
    · exact sameL_symm h
    · cases h
  · have h' := sameBits_symm1 h
    rename_i hne
    have hb : ∀ l, b ≠ .agg l := by
      intro l e1
      subst e1
      cases a <;> cases h
    unfold sameK
    split
    · exact absurd rfl (hb _)
    · exact h'

theorem EntR.get : ∀ {es : List Ent} {es' : List MapEntry}, EntR φ e es es' → ∀ {i : Nat} {x : Ent}, es[i]? = some x → ∃ y, es'[i]? = some y ∧ VR φ e x.key y.key ∧ VR φ e x.val y.val ∧ x.born = y.born
  | _, _, .nil, i, x, h => by simp at h
  | _, _, .cons a l b r hk hv hb t, i, x, h => by
    cases i with
    | zero => simp at h; subst h; exact ⟨b, rfl, hk, hv, hb⟩
    | succ i => simp at h; obtain ⟨y, hy, hr⟩ := t.get h; exact ⟨y, by simpa using hy, hr⟩

theorem lsetO_ok : ∀ {es : List Ent} {es' : List MapEntry} {i : Nat} {x : Ent} {es1 : List Ent} {k v : Value}, EntR φ e es es' → lsetO es i x = some es1 → VR φ e x.key k → VR φ e x.val v →
    (∀ y, es'[i]? = some y → x.born = y.born) → EntR φ e es1 (es'.modify i fun y => { y with key := k, val := v }) := by
  intro es
  induction es with
  | nil => intro es' i x es1 k v h hs; cases hs
  | cons a es ih =>
    intro es' i x es1 k v h hs hk hv hb
    cases h with
    | cons _ _ b r hk0 hv0 hb0 t =>
      cases i with
      | zero =>
        cases hs
        exact .cons _ _ _ _ hk hv (hb b rfl) t
      | succ i =>
        obtain ⟨q, hq, h1⟩ := ob_some (x := lsetO es i x) hs
        cases h1
        exact .cons _ _ _ _ hk0 hv0 hb0 (ih t hq hk hv (fun y hy => hb y (by simpa using hy)))

theorem EntR.push : ∀ {es : List Ent} {es' : List MapEntry} {x : Ent} {y : MapEntry}, EntR φ e es es' → VR φ e x.key y.key → VR φ e x.val y.val → x.born = y.born → EntR φ e (es ++ [x]) (es' ++ [y])
  | _, _, _, _, .nil, hk, hv, hb => .cons _ _ _ _ hk hv hb .nil
  | _, _, _, _, .cons a l b r hk0 hv0 hb0 t, hk, hv, hb => .cons _ _ _ _ hk0 hv0 hb0 (t.push hk hv hb)

/-- a block of entries is turned -/
theorem RW.setMap (hR : RW G φ e h nx w) {b : Nat} {L : Loc} {blk : Blk} {es : List Ent} {c : Nat} {es' : Array MapEntry} (hL : φ b = some L) (hb : hget h b = some blk) (hr : EntR φ e es es'.toList) (hmut : hro h b = false) :
    RW G φ e (hset h b (.map es c)) nx { w with heap := w.heap.setIfInBounds L.B (.map es' c) } ∧ Frame φ h w φ (hset h b (.map es c)) { w with heap := w.heap.setIfInBounds L.B (.map es' c) } := by
  obtain ⟨hbn, hb6⟩ := hR.dom b L hL
  obtain ⟨L0, hL0, hB⟩ := hR.live b _ hb6 hb
  rw [hL] at hL0; cases hL0
  refine hR.turn (L' := L) hb6 hb hL rfl hb6 hL (fun _ _ => rfl) (fun _ _ h => h) (hget_hset _ _ _) (fun x k hx hne hk => ⟨hne, by rwa [hget_hset_ne hx hb6 hne] at hk⟩) (by simp)
    (fun B hB => by simp [Array.getElem?_setIfInBounds_ne (Ne.symm hB)]) rfl rfl rfl ?_ hbn (Nat.le_refl _) hmut (hset_lo _ _ _)
  exact ⟨es', by simp [Array.getElem?_setIfInBounds_self_of_lt hB.lt], hr⟩

variable (hG : cx.G ≤ P.globals.size)
include hG

theorem cMapSet_ok {o : Oper} {t : TypeId} {m k x : Operand} (ho : o.op = .mapUpdate t m k x ∨ o.op = .insert t m k x) :
    COk P cx (cMapSetT P (P.underlying t) (cO cx m) (cO cx k) (cO cx x)) o := by
  intro φ e N nv tm A h nx w id call r hcall hA hR hid hle hv
  unfold cMapSetT at hv
  split at hv
  · rename_i kt et hu
    cases hkt : keyT P 4 kt with
    | false => rw [hkt] at hv; cases hv
    | true =>
      rw [hkt] at hv
      obtain ⟨a, ha, h1⟩ := ob_some (x := (cO cx m).run nv tm) hv
      obtain ⟨b, hb, h2⟩ := ob_some (x := (cO cx k).run nv tm) h1
      obtain ⟨c, hc, h3⟩ := ob_some (x := (cO cx x).run nv tm) h2
      obtain ⟨r0, hq, h4⟩ := onMap_some h3
      subst hq
      obtain ⟨h', hset', h5⟩ := ob_some (x := mapSet (eqT P 8 kt) h r0 b c) h4
      cases h5
      obtain ⟨hmut0, hset2⟩ := guardB_some hset'
      have hmut := notB_hro hmut0
      obtain ⟨blk, hblk, h6⟩ := ob_some (x := hget h r0) hset2
      obtain ⟨es, clock, hbe, h7⟩ := onEnts_some h6
      subst hbe
      obtain ⟨q, hq, h8⟩ := ob_some (x := (eqT P 8 kt).run b b) h7
      obtain ⟨hq1, h9⟩ := guardB_some h8
      subst hq1
      obtain ⟨fr, hfr, h10⟩ := ob_some (x := findKey (eqT P 8 kt) b es 0) h9
      obtain ⟨bnew, hbn, h11⟩ := ob_some (x := mapPut b c es clock fr) h10
      cases h11
      obtain ⟨L, hL, hxe⟩ := (op_ok hG hA hR.rv ha).inv_map
      have hy := op_ok hG hA hR.rv hb
      have hz := op_ok hG hA hR.rv hc
      obtain ⟨es', hw, hre⟩ := map_run hR.rv hL hblk
      obtain ⟨td, hud⟩ := keyT_und hkt
      obtain ⟨r', hkr, hfind⟩ := findKey_run (by decide) hud hy w hfr hre
      have hck := checkKey_ok (P := P) false 4 8 kt b (A.eval k) w hkt hq hy 10000 (by decide)
      have hgo : ∀ w', (Instr.mapUpdate t (A.eval m) (A.eval k) (A.eval x)).run P w = .ok () w' → (execOp A.eval o).run P w = .ok .skip w' := by
        intro w' h12
        rcases ho with ho | ho <;> (simp only [execOp, ho]; exact run_u h12)
      cases hkr with
      | none =>
        cases hbn
        have hrun : (Instr.mapUpdate t (A.eval m) (A.eval k) (A.eval x)).run P w = .ok () { w with heap := w.heap.setIfInBounds L.B (.map (es'.push { key := A.eval k, val := A.eval x, born := clock }) (clock + 1)) } := by
          rw [hxe]
          simp [Instr.mapUpdate, run_underlying hu, MapKept.run_getObj_map hw, hck, hfind, MapKept.run_setObj_map _ hw]
        rw [hgo _ hrun]
        obtain ⟨h12, h13⟩ := hR.setMap (es := lapp es [⟨b, c, clock⟩]) (c := Nat.succ clock) (es' := es'.push { key := A.eval k, val := A.eval x, born := clock }) hL hblk
          (by rw [lapp_eq, Array.toList_push]; exact hre.push hy hz rfl) hmut
        exact upon_skip ⟨.tuple [], φ, _, nx, rfl, ⟨fun _ _ _ => rfl, fun _ _ h => h, Nat.le_refl _, h13, h12⟩, VR.undef'⟩
      | some i av u hru =>
        obtain ⟨es1, hes1, h12⟩ := ob_some (x := setEnt b c i es) hbn
        cases h12
        obtain ⟨x0, hx0, h13⟩ := ob_some (x := lget es i) hes1
        obtain ⟨hsame, h14⟩ := guardB_some h13
        rw [lget_eq] at hx0
        obtain ⟨y0, hy0, hyk, hyv, hyb⟩ := hre.get hx0
        have hy0' : es'[i]? = some y0 := by rw [← Array.getElem?_toList]; exact hy0
        have hsb := sameK_ok (sameK_symm hsame) hyk hy 9999
        have hkeep : (Instr.keyThatStays y0.key (A.eval k)).run P w = .ok (A.eval k) w := by
          unfold Instr.keyThatStays
          rw [if_pos hsb]; rfl
        have hrun : (Instr.mapUpdate t (A.eval m) (A.eval k) (A.eval x)).run P w =
            .ok () { w with heap := w.heap.setIfInBounds L.B (.map (es'.modify i fun e => { e with key := A.eval k, val := A.eval x }) clock) } := by
          rw [hxe]
          simp [Instr.mapUpdate, run_underlying hu, MapKept.run_getObj_map hw, hck, hfind, hy0', hkeep, MapKept.run_setObj_map _ hw]
        rw [hgo _ hrun]
        obtain ⟨h15, h16⟩ := hR.setMap (es := es1) (c := clock) (es' := es'.modify i fun e => { e with key := A.eval k, val := A.eval x }) hL hblk
          (by rw [Array.toList_modify]; exact lsetO_ok hre h14 hy hz (fun y hy' => by rw [hy0] at hy'; cases hy'; exact hyb)) hmut
        exact upon_skip ⟨.tuple [], φ, _, nx, rfl, ⟨fun _ _ _ => rfl, fun _ _ h => h, Nat.le_refl _, h16, h15⟩, VR.undef'⟩
  · cases hv
end
end Go.AE

/-
A symbolic executor: calls.
-/
namespace Go.AE

section
variable {P : Program} {cx : Cx} {φ φ' : Ph} {e : Syms} {N : Nat} {nv : Env} {tm : TM} {A : Act} {h h1 : Heap} {nx nx' : Nat} {w w' : World} {G : Nat}

theorem Post.id' {id : Nat} {h' : Heap} (p : Post G φ e h nx w nx φ' h' nx' w') : Post G φ e h nx w id φ' h' nx' w' :=
  ⟨fun b hb _ => p.ext b hb (Nat.ne_of_lt hb), p.le, p.nx, p.fr, p.rw⟩
theorem UponOk.mono {o : Oper} {a : Act} {res : Result Next} {R RP R' RP' : Value → World → Prop} (hu : UponOk P o a res R RP) (h1 : ∀ v w, R v w → R' v w) (h2 : ∀ v w, RP v w → RP' v w) : UponOk P o a res R' RP' :=
  fun next Q hn hq hl => hu next Q (fun v w hv => hn v w (h1 v w hv)) (fun v w hv => hq v w (h2 v w hv)) hl
theorem UponOk.id' {o : Oper} {a : Act} {res : Result Next} {r : ARes} {id : Nat} (hu : UponOk P o a res (RVal G φ e h nx w nx r) (RPan G φ e h nx w nx r)) :
    UponOk P o a res (RVal G φ e h nx w id r) (RPan G φ e h nx w id r) :=
  hu.mono (fun _ _ ⟨av, φ', h', nx', h1, h2, h3⟩ => ⟨av, φ', h', nx', h1, h2.id', h3⟩) (fun _ _ ⟨av, φ', h', nx', h1, h2, h3⟩ => ⟨av, φ', h', nx', h1, h2.id', h3⟩)

/-! methods -/
theorem ssaWrap (t : TypeId) (a : Addr) (n : String) : Builtin.ssaWrapNilChk_ #[t] t #[.pointer (some a), strVal "", strVal n] = pure (.pointer (some a)) := rfl
theorem methR_ok (hR : RW G φ e h nx w) {name : String} {t : TypeId} {m : MK} {v w0 : AV} {x : Value} {f : FuncId} (hm : methT P name t = some m) (hr : methR h v m = some (f, w0)) (hx : VR φ e v x) (n : Nat) :
    ∃ u, (method (n + 1) t x name).run P w = .ok (f, u) w ∧ VR φ e w0 u := by
  obtain ⟨i, hi, h1⟩ := ob_some (x := P.info? t) hm
  obtain ⟨me, hme, h2⟩ := ob_some (x := i.methods.toList.find? fun m => m.name == name) h1
  have hfind : i.methods.find? (fun m => m.name == name) = some me := by rw [← Array.find?_toList]; exact hme
  unfold methM at h2
  split at h2
  · rename_i hp
    obtain ⟨⟨g, p⟩, hq, h3⟩ := ob_some (x := me.func) h2
    have hp0 : me.path = #[] := Array.toList_inj.1 hp
    unfold methF at h3
    split at h3
    · rename_i el hu
      have hu : P.underlying t = some (.pointer el) := hu
      cases p with
      | true =>
        cases h3; cases hr
        exact ⟨x, by simp [method, typeInfo, hi, hfind, hp, follow, hq, receiverAt, run_underlying hu, Place.get], hx⟩
      | false =>
        cases h3
        obtain ⟨b, off, hv, h4⟩ := onPtr_some hr
        subst hv
        obtain ⟨y, hy, h5⟩ := ob_some (x := loadB (partK P el) h b off) h4
        cases h5
        obtain ⟨L, hL, hxe⟩ := hx.inv_ptr
        obtain ⟨u, hu1, hr1⟩ := loadB_ok hR.rv hL hy
        refine ⟨u, ?_, hr1⟩
        simp [method, typeInfo, hi, hfind, hp, follow, hq, receiverAt, run_underlying hu, Place.get, hp0, hxe, ssaWrap, asAddr, hu1]
    · rename_i d hd hu
      have hu : P.underlying t = some d := hu
      cases p with
      | true => cases h3
      | false =>
        cases h3; cases hr
        refine ⟨x, ?_, hx⟩
        cases d <;> first
          | exact absurd rfl (hd _)
          | (simp [method, typeInfo, hi, hfind, hp, follow, hq, receiverAt, run_underlying hu, Place.get]; done)
    · cases h3
  · cases h2

variable (hG : cx.G ≤ P.globals.size)
include hG

theorem cCallF_ok {o : Oper} {c : Call} {g : FuncId} (ho : o.op = .call c) (hc : c.callee = .value (.func g)) : COk P cx (cCallF g (cOs cx c.args.toList)) o := by
  intro φ e N nv tm A h nx w id call r hcall hA hR hid hle hv
  obtain ⟨args, hargs, h1⟩ := ob_some (x := evL (cOs cx c.args.toList) nv tm) hv
  obtain ⟨cr, hcr, h2⟩ := ob_some (x := call g args h nx) h1
  have hal := opL_ok hG hA hR.rv hargs
  have := hcall o A (xs := c.args.map A.eval) hR (by rw [Array.toList_map]; exact hal) hcr h2
  have he : execOp A.eval o = callFunc g (c.args.map A.eval) := by
    simp only [execOp, ho, resolve, hc]
    show (Deferred.ofValue (Value.func (.func g) #[] #[]) _ >>= fun d => invoke d.target d.args) = _
    simp only [Deferred.ofValue]
    show invoke (.fn (.func g) #[]) (#[] ++ _) = _
    simp [invoke]
  rw [he]
  exact this.id'

theorem cCallV_ok {o : Oper} {c : Call} {f : Operand} (ho : o.op = .call c) (hc : c.callee = .value f) : COk P cx (cCallV (cO cx f) (cOs cx c.args.toList)) o := by
  intro φ e N nv tm A h nx w id call r hcall hA hR hid hle hv
  obtain ⟨fv, hfv, h0⟩ := ob_some (x := (cO cx f).run nv tm) hv
  obtain ⟨g, first, cap, hq, h1⟩ := onFunc_some h0
  subst hq
  obtain ⟨args, hargs, h2⟩ := ob_some (x := evL (cOs cx c.args.toList) nv tm) h1
  obtain ⟨cr, hcr, h3⟩ := ob_some (x := call g (lapp first (lapp args cap)) h nx) h2
  have hal := opL_ok hG hA hR.rv hargs
  obtain ⟨F, C, hfe, hF, hC⟩ := (op_ok hG hA hR.rv hfv).inv_func
  have := hcall o A (xs := F ++ c.args.map A.eval ++ C) hR (by
    rw [lapp_eq, lapp_eq, Array.toList_append, Array.toList_append, Array.toList_map, List.append_assoc]
    exact hF.append (hal.append hC)) hcr h3
  have he : execOp A.eval o = callFunc g (F ++ c.args.map A.eval ++ C) := by
    simp only [execOp, ho, resolve, hc, hfe]
    rfl
  rw [he]
  exact this.id'

theorem cInvoke_ok {o : Oper} {c : Call} {f : Operand} {name : String} (ho : o.op = .call c) (hc : c.callee = .invoke f name) : COk P cx (cInvoke P name (cO cx f) (cOs cx c.args.toList)) o := by
  intro φ e N nv tm A h nx w id call r hcall hA hR hid hle hv
  obtain ⟨fv, hfv, h0⟩ := ob_some (x := (cO cx f).run nv tm) hv
  obtain ⟨t, v, hq, h1⟩ := onIface_some h0
  subst hq
  obtain ⟨m, hm, h2⟩ := ob_some (x := methT P name t) h1
  obtain ⟨⟨g, rv⟩, hg, h3⟩ := ob_some (x := methR h v m) h2
  obtain ⟨args, hargs, h4⟩ := ob_some (x := evL (cOs cx c.args.toList) nv tm) h3
  obtain ⟨cr, hcr, h5⟩ := ob_some (x := call g (rv :: args) h nx) h4
  have hal := opL_ok hG hA hR.rv hargs
  obtain ⟨x, hxe, hx⟩ := (op_ok hG hA hR.rv hfv).inv_iface
  have hdep : P.types.size + Made.depth = (P.types.size + Made.depth - 1) + 1 := by
    have : 0 < Made.depth := by decide
    omega
  obtain ⟨u, hu, hur⟩ := methR_ok hR hm hg hx (P.types.size + Made.depth - 1)
  have := hcall o A (xs := #[u] ++ c.args.map A.eval) hR (by
    rw [Array.toList_append, Array.toList_map]
    exact .cons _ _ _ _ hur hal) hcr h5
  have he : (execOp A.eval o).run P w = (callFunc g (#[u] ++ c.args.map A.eval)).run P w := by
    simp only [execOp, ho, resolve, hc, hxe]
    show (invoke (.fn (.method name) #[]) (#[Value.iface t x] ++ c.args.map A.eval)).run P w = _
    have h6 : (#[Value.iface t x] ++ c.args.map A.eval)[0]? = some (Value.iface t x) := by
      rw [Array.getElem?_append_left (by simp)]; rfl
    have h7 : (#[Value.iface t x] ++ c.args.map A.eval).extract 1 (#[Value.iface t x] ++ c.args.map A.eval).size = c.args.map A.eval := by
      apply Array.ext'
      simp
      exact List.take_of_length_le (by simp)
    simp only [invoke, h6, h7, callMethod]
    simp only [Sem.run_bind, run_program, Result.andThen_ok]
    rw [hdep, hu]
    rfl
  rw [he]
  exact this.id'

theorem cBuiltin_ok {o : Oper} {c : Call} {b : Builtin} (ho : o.op = .call c) (hc : c.callee = .builtin b) : COk P cx (cBuiltin P b c.argTypes.toList (cOs cx c.args.toList)) o := by
  unfold cBuiltin
  split
  · rename_i x hx
    obtain ⟨a, ha, rfl⟩ := args_one hx
    unfold cBuiltin1
    split
    · exact cPanic_ok hG (.inr ⟨c, ho, hc, ha⟩)
    · exact cNo_ok o
  · rename_i x y hx
    obtain ⟨a, b', ha, rfl, rfl⟩ := args_two hx
    unfold cBuiltin2
    split
    · exact cApp_ok hG ho hc ha
    · exact cCopy_ok hG ho hc ha
    · exact cNo_ok o
  · exact cNo_ok o

/-! every operation -/
def KOk (P : Program) (cx : Cx) (k : CK) (o : Oper) : Prop := match k with
  | .rd f _ => ROk P cx f o
  | .al f => AOk P cx f o
  | .ac f => COk P cx f o
  | .df f l => ∃ c, o.op = .defer c ∧ ∃ x, c.callee = .value x ∧ f = cO cx x ∧ l = cOs cx c.args.toList
  | .rc => ∃ c, o.op = .call c ∧ c.callee = .builtin .recover
  | .no => True

theorem cKind_ok (o : Oper) : KOk P cx (cKind P cx o.op) o := by
  cases ho : o.op with
  | move x => exact rMove_ok hG (.inl ho)
  | assign x => exact rMove_ok hG (.inr ho)
  | pick c a b => exact rPick_ok hG ho
  | alloc t => exact aAlloc_ok ho
  | box t x => exact aBox_ok hG ho
  | build t parts => exact rBuild_ok hG ho
  | buildSlice t len parts => exact aLit_ok hG ho
  | insert t m k v => exact cMapSet_ok hG (.inr ho)
  | load t a => exact rLoad_ok hG ho
  | store t a x => exact cStore_ok hG ho
  | nilCheck x => exact rNil_ok hG ho
  | binOp op t x y yt => exact cBin_ok hG ho
  | unOp op t x => exact rUn_ok hG ho
  | convert s d x =>
    show KOk P cx (cConvert P cx (und P s) (und P d) x) o
    unfold cConvert
    cases isSl (und P d) with
    | true => exact aBytes_ok hG ho
    | false => exact rConv_ok hG ho
  | makeInterface t x => exact rIface_ok hG ho
  | makeFunc fn first cap => exact rFunc_ok hG ho
  | makeMap t r => exact aMap_ok hG ho
  | makeSlice t l c => exact aMake_ok hG ho
  | slice t x lo hi mx => exact rSlice_ok hG ho
  | fieldAddr t x f => exact rFieldAddr_ok hG ho
  | field t x f => exact rField_ok hG ho
  | indexAddr t x i => exact rIndexAddr_ok hG ho
  | index t x i => exact rIndex_ok hG ho
  | lookup t m k ok => exact rLookup_ok hG ho
  | mapUpdate t m k v => exact cMapSet_ok hG (.inl ho)
  | typeAssert x s t ok => exact rAssert_ok hG ho
  | extract x i => exact rExtract_ok hG ho
  | panic x => exact cPanic_ok hG (.inl ho)
  | call c =>
    show KOk P cx (cCall P cx c) o
    unfold cCall
    split
    · rename_i b hc
      cases hr : isRd b with
      | true => exact rBuiltin_ok hG ho hc
      | false =>
        cases hrc : isRc b with
        | true =>
          have : b = .recover := by cases b <;> first | rfl | cases hrc
          subst this
          exact ⟨c, ho, hc⟩
        | false => exact cBuiltin_ok hG ho hc
    · rename_i f hc; exact cCallF_ok hG ho hc
    · rename_i f _ hc; exact cCallV_ok hG ho hc
    · rename_i r name hc; exact cInvoke_ok hG ho hc
  | defer c =>
    show KOk P cx (cDefer cx c) o
    unfold cDefer
    split
    · rename_i f hc; exact ⟨c, ho, f, hc, rfl, rfl⟩
    · trivial
  | _ => exact True.intro
end
end Go.AE
