/-
Texts of the proof, joined: Op1, AEK, AERun, AESym, EvData, EvLaw, T2, R24.
-/
import Derived.Test.YtaajedkbaahgfaaGreatDoorA5
import Derived.ChangeArms
import Derived.KernelRfl
import Derived.Test.YtaajedkbaahgfaaGreatDoorCheckedLc
import Derived.Test.YtaajedkbaahgfaaGreatDoorProg
set_option linter.unusedSimpArgs false
set_option linter.unusedVariables false
set_option linter.unusedSectionVars false
/-
Inputs: what can be read as data (bools, integers, strings, slices, structs) can be laid into the executor's memory, to be read only.
-/
namespace Go.AE
abbrev Mm := Nat → Option Blk
abbrev Mm.le (σ τ : Mm) : Prop := ∀ b x, σ b = some x → τ b = some x
noncomputable def mput (σ : Mm) (id : Nat) (x : Blk) : Mm := fun b => if b = id then some x else σ b
theorem mput_self (σ : Mm) (id : Nat) (x : Blk) : mput σ id x id = some x := by simp [mput]
theorem mput_le {σ : Mm} {id : Nat} {x : Blk} (h : σ id = none) : Mm.le σ (mput σ id x) := by
  intro b y hb
  have : b ≠ id := fun e => by rw [e, h] at hb; cases hb
  simp [mput, this, hb]

/-- the fields lie one behind the other -/
def layB (P : Program) : List Field → Nat → Nat → Bool
  | [], o, n => o == n
  | f :: r, o, n => (f.offset == o) && layB P r (o + P.cellsOf f.type) n
/-- types of plain data -/
def plainD (P : Program) (S : TypeId → Bool) (t : TypeId) : Option TypeDesc → Bool
  | some .bool => true
  | some (.int _) => true
  | some .string => true
  | some (.slice e) => S e && decide (0 < P.cellsOf e)
  | some (.struct fs) => fs.toList.all (fun f => S f.type) && layB P fs.toList 0 (P.cellsOf t)
  | _ => false
def Plain (P : Program) (S : TypeId → Bool) : Prop := ∀ t, S t = true → plainD P S t (P.underlying t) = true

/-- data, read in the executor's memory -/
def DRd {H : Type} (P : Program) (σ : Mm) : Nat → TypeId → DataW H → List AV → Prop
  | 0, _, _, _ => False
  | fuel + 1, t, d, l => match P.underlying t with
    | some .bool => ∃ b, d = .lit (.bool b) ∧ l = [.bool b]
    | some (.int k) => ∃ n, d = .lit (.int k n) ∧ l = [.int k n]
    | some .string => ∃ bytes x, d = .lit (.string bytes) ∧ l = [.str bytes.length x]
    | some (.slice e) => (d = .nil ∧ l = [.nilslice]) ∨ ∃ (elems spare : List (DataW H)) (b o : Nat) (cap : Option Nat) (cs : List AV), d = .slice elems spare ∧ l = [.slice b o elems.length cap (P.cellsOf e)] ∧ σ b = some (.cells cs) ∧ elems.length < 9223372036854775808 ∧
        ∀ (i : Nat) (x : DataW H), elems[i]? = some x → DRd P σ fuel e x ((cs.drop (o + i * P.cellsOf e)).take (P.cellsOf e))
    | some (.struct fs) => ∃ parts, d = .agg parts ∧ l.length = P.cellsOf t ∧ parts.length = fs.size ∧ ∀ (i : Nat) (f : Field) (x : DataW H), fs[i]? = some f → parts[i]? = some x → DRd P σ fuel f.type x ((l.drop f.offset).take (P.cellsOf f.type))
    | _ => False
theorem DRd.mono {H : Type} {P : Program} {σ τ : Mm} (h : Mm.le σ τ) : ∀ (fuel : Nat) {t : TypeId} {d : DataW H} {l : List AV}, DRd P σ fuel t d l → DRd P τ fuel t d l := by
  intro fuel
  induction fuel with
  | zero => intro t d l hd; exact hd.elim
  | succ n ih =>
    intro t d l hd
    unfold DRd at hd ⊢
    generalize P.underlying t = u at hd ⊢
    split at hd
    · exact hd
    · exact hd
    · exact hd
    · rcases hd with hd | ⟨elems, spare, b, o, cap, cs, h1, h2, h3, h4, h5⟩
      · exact .inl hd
      · exact .inr ⟨elems, spare, b, o, cap, cs, h1, h2, h _ _ h3, h4, fun i x hx => ih (h5 i x hx)⟩
    · obtain ⟨parts, h1, h2, h3, h4⟩ := hd
      exact ⟨parts, h1, h2, h3, fun i f x hf hx => ih (h4 i f x hf hx)⟩
    · exact hd.elim

/-- what is laid so far -/
structure CI (e : Syms) (w : World) (dm : Nat) (φ : Ph) (σ : Mm) (n : Nat) : Prop where
  live : ∀ b blk, σ b = some blk → ∃ L, φ b = some L ∧ BR φ e w L blk
  dom : ∀ b L, φ b = some L → b < n
  sdom : ∀ b x, σ b = some x → 65536 ≤ b ∧ b < n
  ge : 65536 ≤ n
  dm : σ dm = some (.cells [])

section
variable {H : Type} {P : Program} {S : TypeId → Bool} {e : Syms} {w : World} {dm : Nat} {enc : TypeId × Value → H} {base : Nat} {spare : Nat → Bool} {held : Bool}
/-- a reading, laid -/
def Laid1 (P : Program) (e : Syms) (w : World) (dm fuel : Nat) (t : TypeId) (cs : List Value) (d : DataW H) (φ : Ph) (σ : Mm) (n : Nat) : Prop :=
  ∃ φ' σ' n' l, CI e w dm φ' σ' n' ∧ n ≤ n' ∧ Phi.le φ φ' ∧ Mm.le σ σ' ∧ (∀ b, b < n → φ' b = φ b) ∧ VRL φ' e l cs ∧ DRd P σ' fuel t d l
def LaidAll (P : Program) (S : TypeId → Bool) (e : Syms) (w : World) (dm : Nat) (enc : TypeId × Value → H) (base : Nat) (spare : Nat → Bool) (held : Bool) (fuel : Nat) : Prop :=
  ∀ t cs x, S t = true → DataW.trod enc P w base spare held fuel t cs = some x → ∀ φ σ n, CI e w dm φ σ n → Laid1 P e w dm fuel t cs x.1 φ σ n

theorem lay_fields {fuel : Nat} (ih : LaidAll P S e w dm enc base spare held fuel) {cs : List Value} : ∀ (fs : List Field) (o total : Nat) (xs : List (DataW H × List MemPlace)), layB P fs o total = true → (fs.all fun f => S f.type) = true → cs.length = total → xs.length = fs.length →
    (∀ (i : Nat) (f : Field), fs[i]? = some f → DataW.trod enc P w base spare held fuel f.type ((cs.drop f.offset).take (P.cellsOf f.type)) = xs[i]?) → ∀ φ σ n, CI e w dm φ σ n →
    ∃ φ' σ' n' l, CI e w dm φ' σ' n' ∧ n ≤ n' ∧ Phi.le φ φ' ∧ Mm.le σ σ' ∧ (∀ b, b < n → φ' b = φ b) ∧ VRL φ' e l (cs.drop o) ∧ (∀ (i : Nat) (f : Field) (x : DataW H × List MemPlace), fs[i]? = some f → xs[i]? = some x → o ≤ f.offset ∧ DRd P σ' fuel f.type x.1 ((l.drop (f.offset - o)).take (P.cellsOf f.type))) := by
  intro fs
  induction fs with
  | nil =>
    intro o total xs hl _ hlen _ _ φ σ n hc
    have ho : o = total := by simpa [layB] using hl
    refine ⟨φ, σ, n, [], hc, Nat.le_refl _, fun _ _ h => h, fun _ _ h => h, fun _ _ => rfl, ?_, fun i f x hf => by simp at hf⟩
    rw [List.drop_of_length_le (by omega)]; exact .nil
  | cons f fs ihf =>
    intro o total xs hl hS hlen hxl hx φ σ n hc
    simp only [layB, Bool.and_eq_true, beq_iff_eq] at hl
    obtain ⟨hfo, hl⟩ := hl
    simp only [List.all_cons, Bool.and_eq_true] at hS
    obtain ⟨x, xs, rfl⟩ : ∃ x r, xs = x :: r := by
      cases xs with
      | nil => simp at hxl
      | cons x r => exact ⟨x, r, rfl⟩
    have h0 := hx 0 f rfl
    obtain ⟨φ1, σ1, n1, l1, c1, hn1, hp1, hs1, he1, hv1, hd1⟩ := ih f.type _ x hS.1 h0 φ σ n hc
    obtain ⟨φ2, σ2, n2, l2, c2, hn2, hp2, hs2, he2, hv2, hd2⟩ := ihf (o + P.cellsOf f.type) total xs hl hS.2 hlen (by simpa using hxl) (fun i g hg => by simpa using hx (i + 1) g (by simpa using hg)) φ1 σ1 n1 c1
    rw [hfo] at hv1
    have hlen1 : l1.length = ((cs.drop o).take (P.cellsOf f.type)).length := hv1.length
    refine ⟨φ2, σ2, n2, l1 ++ l2, c2, by omega, fun b L h => hp2 _ _ (hp1 _ _ h), fun b y h => hs2 _ _ (hs1 _ _ h), fun b hb => (he2 b (by omega)).trans (he1 b hb), ?_, ?_⟩
    · have := (hv1.mono hp2).append hv2
      rwa [← List.drop_drop, List.take_append_drop] at this
    · have hk : l1.length = P.cellsOf f.type := by
        rw [hlen1, List.length_take, List.length_drop]
        have key : ∀ (fs : List Field) (o total : Nat), layB P fs o total = true → o ≤ total := by
          intro fs
          induction fs with
          | nil => intro o total h; have : o = total := by simpa [layB] using h
                   omega
          | cons g fs ih => intro o total h; simp only [layB, Bool.and_eq_true, beq_iff_eq] at h; have := ih _ _ h.2; omega
        have := key _ _ _ hl
        omega
      intro i g y hg hy
      cases i with
      | zero =>
        simp at hg hy; subst hg hy
        refine ⟨by omega, ?_⟩
        rw [hfo, Nat.sub_self, List.drop_zero, ← hk, List.take_left']
        · exact hd1.mono hs2
        · rfl
      | succ i =>
        obtain ⟨hle, hd⟩ := hd2 i g y (by simpa using hg) (by simpa using hy)
        refine ⟨by omega, ?_⟩
        rw [show g.offset - o = l1.length + (g.offset - (o + P.cellsOf f.type)) by omega, List.drop_append, List.drop_of_length_le (by omega), List.nil_append, show l1.length + (g.offset - (o + P.cellsOf f.type)) - l1.length = g.offset - (o + P.cellsOf f.type) by omega]
        exact hd

theorem lay_rows {fuel : Nat} (ih : LaidAll P S e w dm enc base spare held fuel) {t : TypeId} (hS : S t = true) {a : Addr} : ∀ (ys : List (DataW H × List MemPlace)) (j : Nat),
    (∀ i y, ys[i]? = some y → (w.cells? base (a.add ((j + i) * P.cellsOf t)) (P.cellsOf t)).bind (DataW.trod enc P w base spare held fuel t) = some y) → ∀ φ σ n, CI e w dm φ σ n →
    ∃ φ' σ' n' l us, CI e w dm φ' σ' n' ∧ n ≤ n' ∧ Phi.le φ φ' ∧ Mm.le σ σ' ∧ (∀ b, b < n → φ' b = φ b) ∧ VRL φ' e l us ∧ l.length = ys.length * P.cellsOf t ∧ (∀ i u, us[i]? = some u → w.cell? ((a.add ((j + i / P.cellsOf t) * P.cellsOf t)).add (i % P.cellsOf t)) = some u) ∧
      ∀ i y, ys[i]? = some y → DRd P σ' fuel t y.1 ((l.drop (i * P.cellsOf t)).take (P.cellsOf t)) := by
  intro ys
  induction ys with
  | nil =>
    intro j _ φ σ n hc
    exact ⟨φ, σ, n, [], [], hc, Nat.le_refl _, fun _ _ h => h, fun _ _ h => h, fun _ _ => rfl, .nil, by simp, fun i u h => by simp at h, fun i y h => by simp at h⟩
  | cons y ys ihy =>
    intro j hy φ σ n hc
    have h0 := hy 0 y rfl
    rw [Nat.add_zero, Option.bind_eq_some_iff] at h0
    obtain ⟨us1, hcs, htr⟩ := h0
    obtain ⟨_, hul, hug⟩ := World.cells?_some hcs
    obtain ⟨φ1, σ1, n1, l1, c1, hn1, hp1, hs1, he1, hv1, hd1⟩ := ih t _ y hS htr φ σ n hc
    obtain ⟨φ2, σ2, n2, l2, us2, c2, hn2, hp2, hs2, he2, hv2, hl2, hg2, hd2⟩ := ihy (j + 1) (fun i z hz => by
      have := hy (i + 1) z (by simpa using hz)
      rwa [show j + (i + 1) = j + 1 + i by omega] at this) φ1 σ1 n1 c1
    have hl1 : l1.length = P.cellsOf t := hv1.length.trans hul
    refine ⟨φ2, σ2, n2, l1 ++ l2, us1 ++ us2, c2, by omega, fun b L h => hp2 _ _ (hp1 _ _ h), fun b y h => hs2 _ _ (hs1 _ _ h), fun b hb => (he2 b (by omega)).trans (he1 b hb), (hv1.mono hp2).append hv2, ?_, ?_, ?_⟩
    · simp only [List.length_append, List.length_cons, hl1, hl2, Nat.add_mul]; omega
    · intro i u hu
      by_cases hi : i < P.cellsOf t
      · rw [List.getElem?_append_left (by omega)] at hu
        rw [Nat.div_eq_of_lt hi, Nat.mod_eq_of_lt hi, Nat.add_zero]
        rw [hug i hi]; exact hu
      · rw [List.getElem?_append_right (by omega), hul] at hu
        have := hg2 _ u hu
        have hpos : 0 < P.cellsOf t := by
          rcases Nat.eq_zero_or_pos (P.cellsOf t) with h | h
          · exfalso
            have hz : us2 = [] := by
              have : us2.length = 0 := by rw [← hv2.length, hl2, h]; simp
              exact List.eq_nil_of_length_eq_zero this
            rw [hz] at hu; simp at hu
          · exact h
        have e1 : i / P.cellsOf t = (i - P.cellsOf t) / P.cellsOf t + 1 := by
          rw [Nat.div_eq_sub_div hpos (by omega)]
        have e2 : i % P.cellsOf t = (i - P.cellsOf t) % P.cellsOf t := by
          rw [Nat.mod_eq_sub_mod (by omega)]
        rw [e1, e2, show j + ((i - P.cellsOf t) / P.cellsOf t + 1) = j + 1 + (i - P.cellsOf t) / P.cellsOf t by omega]
        exact this
    · intro i z hz
      cases i with
      | zero =>
        simp at hz; subst hz
        rw [Nat.zero_mul, List.drop_zero, ← hl1, List.take_left']
        · exact hd1.mono hs2
        · rfl
      | succ i =>
        have := hd2 i z (by simpa using hz)
        rw [Nat.add_mul, Nat.one_mul, Nat.add_comm, ← hl1, List.drop_append, List.drop_of_length_le (by omega), List.nil_append, show l1.length + i * l1.length - l1.length = i * l1.length by omega, hl1]
        exact this
theorem unpack_of : ∀ (l : List UInt8), ∃ x, unpack l.length x = l := by
  intro l
  induction l with
  | nil => exact ⟨0, rfl⟩
  | cons b l ih =>
    obtain ⟨x, hx⟩ := ih
    refine ⟨b.toNat + 256 * x, ?_⟩
    rw [List.length_cons, unpack_succ]
    have h1 : b.toNat < 256 := b.toNat_lt
    have e1 : (b.toNat + 256 * x) % 256 = b.toNat := by omega
    have e2 : (b.toNat + 256 * x) / 256 = x := by omega
    rw [e1, e2, hx]
    congr 1
    exact UInt8.ofNat_toNat
/-- whatever can be read as plain data can be laid -/
theorem lay_all (hP : Plain P S) (hsp : ∀ b, spare b = true) (hex : ∀ B, B < w.heap.size → exB e B) : ∀ fuel, LaidAll P S e w dm enc base spare held fuel := by
  intro fuel
  induction fuel with
  | zero => intro t cs x _ h; simp [DataW.trod] at h
  | succ k ih =>
    intro t cs x hS h φ σ n hc
    have hp := hP t hS
    cases hu : P.underlying t with
    | none => rw [hu] at hp; cases hp
    | some d =>
      rw [hu] at hp
      cases d with
      | bool =>
        obtain ⟨b, rfl, rfl⟩ := DataW.trod_bool hu h
        exact ⟨φ, σ, n, [.bool b], hc, Nat.le_refl _, fun _ _ h => h, fun _ _ h => h, fun _ _ => rfl, .one (.bool b), by unfold DRd; rw [hu]; exact ⟨b, rfl, rfl⟩⟩
      | int i =>
        obtain ⟨z, rfl, rfl, _⟩ := DataW.trod_int hu h
        exact ⟨φ, σ, n, [.int i z], hc, Nat.le_refl _, fun _ _ h => h, fun _ _ h => h, fun _ _ => rfl, .one (.int i z), by unfold DRd; rw [hu]; exact ⟨z, rfl, rfl⟩⟩
      | string =>
        obtain ⟨s, rfl, rfl, _⟩ := DataW.trod_string hu h
        obtain ⟨z, hz⟩ := unpack_of s.data.toList
        exact ⟨φ, σ, n, [.str s.data.toList.length z], hc, Nat.le_refl _, fun _ _ h => h, fun _ _ h => h, fun _ _ => rfl, .one (.str _ _ s hz.symm), by unfold DRd; rw [hu]; exact ⟨_, z, rfl, rfl⟩⟩
      | struct fs =>
        simp only [plainD, Bool.and_eq_true] at hp
        obtain ⟨xs, m, hm, rfl, hlen, hxl, hx⟩ := DataW.trod_struct hu h
        obtain rfl : k = m := by omega
        obtain ⟨φ', σ', n', l, c', hn, hphi, hsig, hext, hv, hd⟩ := lay_fields ih (cs := cs) fs.toList 0 (P.cellsOf t) xs hp.2 hp.1 hlen (by simpa using hxl) (fun i f hf => hx i f (by simpa using hf)) φ σ n hc
        rw [List.drop_zero] at hv
        refine ⟨φ', σ', n', l, c', hn, hphi, hsig, hext, hv, ?_⟩
        unfold DRd
        rw [hu]
        refine ⟨_, rfl, hv.length.trans hlen, by simpa using hxl, fun i f y hf hy => ?_⟩
        rw [List.getElem?_map, Option.map_eq_some_iff] at hy
        obtain ⟨z, hz, rfl⟩ := hy
        have := (hd i f z (by simpa using hf) hz).2
        rwa [Nat.sub_zero] at this
      | slice el =>
        simp only [plainD, Bool.and_eq_true, decide_eq_true_eq] at hp
        obtain ⟨hSe, hpos⟩ := hp
        rcases DataW.trod_slice hu h with ⟨rfl, rfl⟩ | ⟨a, len, cap, elems, rest, m, hm, rfl, rfl, _, hle, hcap, hel, hes, hrest, _⟩
        · exact ⟨φ, σ, n, [.nilslice], hc, Nat.le_refl _, fun _ _ h => h, fun _ _ h => h, fun _ _ => rfl, .one .nilslice, by unfold DRd; rw [hu]; exact .inl ⟨rfl, rfl⟩⟩
        · obtain rfl : k = m := by omega
          obtain ⟨hrl, hrs⟩ := hrest (hsp _)
          unfold maxLen at hcap
          by_cases h0 : cap = 0
          · subst h0
            have hlen0 : len = 0 := by omega
            subst hlen0
            have he0 : elems = [] := List.eq_nil_of_length_eq_zero hel
            subst he0
            refine ⟨φ, σ, n, [.slice dm 0 0 none (P.cellsOf el)], hc, Nat.le_refl _, fun _ _ h => h, fun _ _ h => h, fun _ _ => rfl, .one (.sliceE dm 0 _ a (hok dm)), ?_⟩
            unfold DRd
            rw [hu]
            exact .inr ⟨_, _, dm, 0, none, [], rfl, rfl, hc.dm, by simp, fun i y hy => by simp at hy⟩
          · obtain ⟨φ1, σ1, n1, l, us, c1, hn1, hp1, hs1, he1, hv1, hl1, hg1, hd1⟩ := lay_rows ih hSe (a := a) (elems ++ rest) 0 (fun i y hy => by
              rw [Nat.zero_add]
              by_cases hi : i < len
              · rw [List.getElem?_append_left (by omega)] at hy
                rw [hes i hi]; exact hy
              · rw [List.getElem?_append_right (by omega), hel] at hy
                have hlt : i - len < rest.length := (List.getElem?_eq_some_iff.1 hy).1
                have := hrs (i - len) (by omega)
                rw [show len + (i - len) = i by omega] at this
                rw [this]; exact hy) φ σ n hc
            have hlt : us.length = cap * P.cellsOf el := by
              rw [← hv1.length, hl1, List.length_append, hel, hrl, show len + (cap - len) = cap by omega]
            have hupos : 0 < us.length := by rw [hlt]; exact Nat.mul_pos (by omega) hpos
            -- where it lies
            have h00 := hg1 0 us[0] (List.getElem?_eq_getElem hupos)
            simp only [Nat.zero_div, Nat.zero_mod, Nat.zero_mul, Nat.add_zero] at h00
            have ha : (a.add 0).add 0 = a := rfl
            rw [ha] at h00
            obtain ⟨c, ct, fr, hblk, hspot⟩ : ∃ c ct fr, w.heap[a.block]? = some (.cells c ct fr) ∧ a.spot = none := by
              unfold World.cell? at h00
              split at h00
              · rename_i c ct fr hb
                cases hsp : a.spot with
                | none => exact ⟨c, ct, fr, hb, rfl⟩
                | some q => rw [hsp] at h00; simp at h00
              · cases h00
            obtain ⟨ab, ao, asp⟩ := a
            simp only at hspot hblk
            subst hspot
            have hcell : ∀ i u, us[i]? = some u → c[ao + i]? = some u := by
              intro i u hi
              have := hg1 i u hi
              have hdm := Nat.div_add_mod i (P.cellsOf el)
              have hadd : ∀ (x y : Nat), (Addr.add (Addr.add ⟨ab, ao, none⟩ x) y) = ⟨ab, ao + x + y, none⟩ := by
                intro x y
                unfold Addr.add
                by_cases hx : x = 0
                · subst hx
                  by_cases hy : y = 0
                  · subst hy; rfl
                  · simp [hy]
                · by_cases hy : y = 0
                  · subst hy; simp [hx]
                  · simp [hx, hy]
              rw [hadd] at this
              unfold World.cell? at this
              simp only [hblk] at this
              simp only [Option.isSome_none, Bool.false_eq_true, if_false, Nat.zero_add] at this
              rw [Nat.mul_comm, Nat.add_assoc, hdm] at this
              exact this
            have hbl : ab < w.heap.size := (Array.getElem?_eq_some_iff.1 hblk).1
            obtain ⟨flo, fhi⟩ := fr
            have hsz : ao + cap * P.cellsOf el ≤ c.size := by
              have := hcell (us.length - 1) us[us.length - 1] (List.getElem?_eq_getElem (by omega))
              have := (Array.getElem?_eq_some_iff.1 this).1
              omega
            have hll : l.length = cap * P.cellsOf el := hv1.length.trans hlt
            have hid : φ1 n1 = none := by
              cases hq : φ1 n1 with
              | none => rfl
              | some L => have := c1.dom _ _ hq; omega
            have hsid : σ1 n1 = none := by
              cases hq : σ1 n1 with
              | none => rfl
              | some y => have := (c1.sdom _ _ hq).2; omega
            have hBR : BR (upd φ1 n1 ⟨ab, ao, c.size⟩) e w ⟨ab, ao, c.size⟩ (.cells l) := by
              refine ⟨c, ct, flo, fhi, hblk, rfl, by rw [hll]; exact hsz, fun hne => absurd (hex ab hbl) hne, fun i v hi => ?_⟩
              obtain ⟨u, hu1, hr⟩ := hv1.get hi
              exact ⟨u, hcell i u hu1, hr.mono (upd_le hid)⟩
            have c2 : CI e w dm (upd φ1 n1 ⟨ab, ao, c.size⟩) (mput σ1 n1 (.cells l)) (n1 + 1) := by
              refine ⟨fun b blk hb => ?_, fun b L hb => ?_, fun b y hb => ?_, by have := c1.ge; omega, mput_le hsid _ _ c1.dm⟩
              · by_cases hbn : b = n1
                · subst hbn
                  rw [mput_self] at hb; cases hb
                  exact ⟨_, upd_self _ _ _, hBR⟩
                · simp only [mput, if_neg hbn] at hb
                  obtain ⟨L, hL, hB⟩ := c1.live b blk hb
                  exact ⟨L, by rw [upd_ne _ _ hbn]; exact hL, hB.mono (upd_le hid)⟩
              · by_cases hbn : b = n1
                · omega
                · rw [upd_ne _ _ hbn] at hb
                  have := c1.dom b L hb; omega
              · by_cases hbn : b = n1
                · have := c1.ge; omega
                · simp only [mput, if_neg hbn] at hb
                  have := c1.sdom b y hb; omega
            refine ⟨_, _, n1 + 1, [.slice n1 0 len (some cap) (P.cellsOf el)], c2, by omega, fun b L hb => upd_le hid _ _ (hp1 _ _ hb), fun b y hb => mput_le hsid _ _ (hs1 _ _ hb), fun b hb => by rw [upd_ne _ _ (by omega)]; exact he1 b hb, .one ?_, ?_⟩
            · have := VR.slice (φ := upd φ1 n1 ⟨ab, ao, c.size⟩) (e := e) n1 0 len cap (P.cellsOf el) ⟨ab, ao, c.size⟩ (upd_self _ _ _) hle (by simp only [Nat.add_zero]; exact hsz)
              simpa using this
            · unfold DRd
              rw [hu]
              refine .inr ⟨_, _, n1, 0, some cap, l, rfl, by rw [List.length_map, hel], mput_self _ _ _, by rw [List.length_map]; omega, fun i y hy => ?_⟩
              rw [List.getElem?_map, Option.map_eq_some_iff] at hy
              obtain ⟨z, hz, rfl⟩ := hy
              rw [Nat.zero_add]
              have hilt := (List.getElem?_eq_some_iff.1 hz).1
              exact (hd1 i z (by rw [List.getElem?_append_left hilt]; exact hz)).mono (mput_le hsid)
      | _ => cases hp
end
end Go.AE

/-
A symbolic executor: the same runs, told with what follows (for runs on inputs that are not known).
-/
noncomputable section
namespace Go.AE

section defs
variable {β : Type}
/-- what follows a piece of code -/
abbrev KX (β : Type) := Heap → Nat → Ex → TM → Defs → Option β
abbrev KN (β : Type) := Env → TM → Defs → Heap → Nat → Option β
def kOut (K : KX β) (o : Out) : Option β := @Out.rec (fun _ => Option β) (fun e tm df h nx => K h nx e tm df) o

/-- a result goes to its place -/
def kPut (d : CD) (v : AV) (nv : Env) (tm : TM) (k : Env → TM → Option β) : Option β := match d with
  | .none => k nv tm
  | .loc => k (v :: nv) tm
  | .at p t => k nv (tsetP p t v tm)
/-- what follows a call -/
def ares (kv kp : AV → Heap → Nat → Option β) (r : ARes) : Option β := @ARes.rec (fun _ => Option β) kv kp r
def kAct (d : CD) (nv : Env) (tm : TM) (df : Defs) (k : KN β) (K : KX β) : ARes → Option β :=
  ares (fun v h nx => kPut d v nv tm fun nv tm => k nv tm df h nx) (fun v h nx => K h nx (.pan v) tm df)
def kOp (d : CD) (x : CK) (call : CallF) (nv : Env) (tm : TM) (df : Defs) (h : Heap) (nx : Nat) (k : KN β) (K : KX β) : Option β := match x with
  | .rd f _ => ob (f.run nv tm h) fun v => kPut d v nv tm fun nv tm => k nv tm df h nx
  | .al f => ob (f.run nv tm nx) fun r => kPut d r.1 nv tm fun nv tm => k nv tm df (hset h nx r.2) (Nat.succ nx)
  | .ac f => ob (f.run call nv tm h nx nx) (kAct d nv tm df k K)
  | .df f l => ob (f.run nv tm) fun v => onFunc v fun g first cap => ob (evL l nv tm) fun args => kPut d (.tuple []) nv tm fun nv tm => k nv tm ((g, lapp first (lapp args cap)) :: df) h nx
  | .rc => none
  | .no => none
/-- an operation that may be left out -/
def kIf (d : CD) (x : CK) (b : Bool) (call : CallF) (nv : Env) (tm : TM) (df : Defs) (h : Heap) (nx : Nat) (k : KN β) (K : KX β) : Option β := match x with
  | .rd f _ => ob (sel b (f.run nv tm h) (some (.tuple []))) fun v => kPut d v nv tm fun nv tm => k nv tm df h nx
  | .ac f => ob (sel b (f.run call nv tm h nx nx) (some (.val (.tuple []) h nx))) (kAct d nv tm df k K)
  | x => sel b (kOp d x call nv tm df h nx k K) (kPut d (.tuple []) nv tm fun nv tm => k nv tm df h nx)
def kGd (c : CP) (call : CallF) (nv : Env) (tm : TM) (df : Defs) (h : Heap) (nx : Nat) (k : KN β) (K : KX β) : Option β := match c.g with
  | .yes => kOp c.d c.k call nv tm df h nx k K
  | .ask x want => ob (x.run nv tm) fun v => ob (wantV want v) fun b => kIf c.d c.k b call nv tm df h nx k K
  | .never => kPut c.d (.tuple []) nv tm fun nv tm => k nv tm df h nx
def kOps (l : List CP) (call : CallF) : Env → TM → Defs → Heap → Nat → KX β → Option β :=
  List.rec (motive := fun _ => Env → TM → Defs → Heap → Nat → KX β → Option β) (fun _ tm df h nx K => K h nx .normal tm df)
    (fun c _ ih nv tm df h nx K => kGd c call nv tm df h nx (fun nv tm df h nx => ih nv tm df h nx K) K) l

/-! regions whose order is open -/
def kDone (c : CA) (d : Draw) (v : AV) (h : Heap) (k : Draw → Option β) : Option β :=
  k ⟨putD c.op.d v d.tl, sel c.gl (putD c.op.d v d.tm) d.tm, h, d.nx, d.old, addBit d.done c.i⟩
def kQOp (es : List Nat) (base : Nat) (c : CA) (d : Draw) (b : Bool) (x : CK) (k : Draw → Option β) : Option β := match x with
  | .rd f mem => ob (sel b (ob (f.run [] d.tl d.h) fun v => guardB (sel mem (sameOld f d.tl v (Nat.sub (llen d.old) (popBits c.anc es)) d.old) true) (some v)) (some (.tuple []))) fun v => kDone c d v d.h k
  | .al f => sel b (ob (f.run [] d.tl (Nat.add base c.i)) fun r => kDone c d r.1 (hset d.h (Nat.add base c.i) r.2) k) (kDone c d (.tuple []) d.h k)
  | _ => sel b none (kDone c d (.tuple []) d.h k)
def kQuiet1 (es : List Nat) (base : Nat) (c : CA) (d : Draw) (k : Draw → Option β) : Option β :=
  guardB (notB (isAc c.op.k)) <| guardB (subB c.anc d.done) <| ob (wantG c.op.g [] d.tl) fun b => kQOp es base c d b c.op.k k
def kQuiet (es : List Nat) (base : Nat) (pick : CA → Bool) (l : List CA) : Draw → (Draw → Option β) → Option β :=
  List.rec (motive := fun _ => Draw → (Draw → Option β) → Option β) (fun d k => k d)
    (fun c _ ih d k => sel (andB (pick c) (notB (hasBit d.done c.i))) (kQuiet1 es base c d fun d => ih d k) (ih d k)) l
def kERes (es : List Nat) (base : Nat) (q : List CA) (c : CA) (d : Draw) (df : Defs) (k : Draw → Option β) (K : KX β) : ARes → Option β :=
  ares (fun v h nx => k ⟨putD c.op.d v d.tl, sel c.gl (putD c.op.d v d.tm) d.tm, h, nx, d.h :: d.old, addBit d.done c.i⟩)
    (fun v h nx => kQuiet es base (fun x => andB (notB (hasBit x.anc c.i)) (notB (Nat.beq x.i c.i))) q d fun _ => K h nx (.pan v) (.tr .nil) df)
def kEOp (es : List Nat) (base : Nat) (q : List CA) (call : CallF) (c : CA) (d : Draw) (df : Defs) (b : Bool) (k : Draw → Option β) (K : KX β) (x : CK) : Option β := match x with
  | .ac f => ob (sel b (f.run call [] d.tl d.h (Nat.add base c.i) d.nx) (some (.val (.tuple []) d.h d.nx))) (kERes es base q c d df k K)
  | _ => sel b none (kERes es base q c d df k K (.val (.tuple []) d.h d.nx))
def kEffects (es : List Nat) (base : Nat) (q : List CA) (call : CallF) (l : List CA) : Nat → Draw → Defs → (Draw → Option β) → KX β → Option β :=
  List.rec (motive := fun _ => Nat → Draw → Defs → (Draw → Option β) → KX β → Option β) (fun _ d _ k _ => k d)
    (fun c _ ih prev d df k K => guardB (Nat.beq (Nat.land prev c.anc) prev) <| kQuiet es base (fun x => hasBit c.anc x.i) q d fun d => guardB (subB c.anc d.done) <|
      ob (wantG c.op.g [] d.tl) fun b => kEOp es base q call c d df b (fun d => ih (Nat.pow 2 c.i) d df k K) K c.op.k) l
def kDraw (p : Option Plan) (call : CallF) (tm : TM) (df : Defs) (h : Heap) (nx : Nat) (K : KX β) : Option β := match p with
  | some p => kEffects p.es nx p.q call p.acts 0 ⟨tm, tm, h, Nat.add nx p.n, [], 0⟩ df (fun d => kQuiet p.es nx (fun _ => true) p.q d fun d => K d.h d.nx .normal d.tm df) K
  | none => none

/-! code -/
abbrev KC (β : Type) := Nat → CallF → TM → Defs → Heap → Nat → KX β → Option β
/-- what follows, if the code before came to its end -/
def kThen (b : TM → Defs → Heap → Nat → KX β → Option β) (K : KX β) : KX β := fun h nx e tm df =>
  @Ex.rec (fun _ => Option β) (b tm df h nx K) (fun id => K h nx (.exit id) tm df) (K h nx .ret tm df) (fun v => K h nx (.pan v) tm df) e
def kLeave (id : Nat) (K : KX β) : KX β := fun h nx e tm df =>
  @Ex.rec (fun _ => Option β) (K h nx .normal tm df) (fun i => sel (Nat.beq i id) (K h nx .normal tm df) (K h nx (.exit i) tm df)) (K h nx .ret tm df) (fun v => K h nx (.pan v) tm df) e
def kLoop (a : TM → Defs → Heap → Nat → KX β → Option β) (n : Nat) : TM → Defs → Heap → Nat → KX β → Option β :=
  Nat.rec (motive := fun _ => TM → Defs → Heap → Nat → KX β → Option β) (fun _ _ _ _ _ => none) (fun _ ih tm df h nx K => a tm df h nx (kThen ih K)) n
variable (P : Program)
def kCode (N dp L : Nat) (c : Code) : KC β :=
  Code.rec (motive := fun _ => KC β) (fun _ _ tm df h nx K => K h nx .normal tm df)
    (fun _ ops draw _ call tm df h nx K => sel draw (kDraw (planOf ops.toList (cDraw P N dp L ops.toList ops.toList)) call tm df h nx K)
      (kOps (cSeq P N ops.toList ops.toList ⟨dp, L, [], P.globals.size⟩) call [] tm df h nx K))
    (fun _ _ a b n call tm df h nx K => a n call tm df h nx (kThen (b n call) K))
    (fun c _ _ a b n call tm df h nx K => ob ((cO ⟨dp, L, [], P.globals.size⟩ c).run [] tm) fun v => onBool v fun t => sel t (a n call tm df h nx K) (b n call tm df h nx K))
    (fun id _ a n call tm df h nx K => a n call tm df h nx (kLeave id K)) (fun _ a n call tm df h nx K => kLoop (a n call) n tm df h nx K) (fun _ _ _ _ _ _ _ _ _ _ _ _ _ => none)
    (fun id _ _ tm df h nx K => K h nx (.exit id) tm df) (fun _ _ _ _ _ _ _ _ _ => none) (fun _ _ _ _ _ _ _ _ => none) (fun _ _ _ _ _ _ _ _ => none) (fun _ _ tm df h nx K => K h nx .ret tm df) (fun _ _ _ _ _ _ _ _ => none) c

/-- the end of a function -/
def kEnd (md : Bool) (loc : FuncId → Nat) (n : Nat) (call : CallF) (res : List RS) : KX CRes := fun h nx e tm df => endD P md loc n call res e tm h nx df
end defs

section thms
variable {β : Type} {P : Program} {md : Bool}

theorem ob_ob {α γ δ : Type} (x : Option α) (f : α → Option γ) (g : γ → Option δ) : ob (ob x f) g = ob x fun a => ob (f a) g := by cases x <;> rfl
theorem ob_guardB {α γ : Type} (b : Bool) (x : Option α) (g : α → Option γ) : ob (guardB b x) g = guardB b (ob x g) := by cases b <;> rfl
theorem ob_sel {α γ : Type} (b : Bool) (x y : Option α) (g : α → Option γ) : ob (sel b x y) g = sel b (ob x g) (ob y g) := by cases b <;> rfl
theorem ob_onFunc {α γ : Type} (v : AV) (k : FuncId → List AV → List AV → Option α) (g : α → Option γ) : ob (onFunc v k) g = onFunc v fun a b c => ob (k a b c) g := by cases v <;> rfl
theorem ob_onBool {α γ : Type} (v : AV) (k : Bool → Option α) (g : α → Option γ) : ob (onBool v k) g = onBool v fun a => ob (k a) g := by cases v <;> rfl
theorem ob_congr {α γ : Type} {x : Option α} {f g : α → Option γ} (h : ∀ a, f a = g a) : ob x f = ob x g := by rw [show f = g from funext h]

theorem kPut_eq (d : CD) (v : AV) (nv : Env) (tm : TM) (df : Defs) (h : Heap) (nx : Nat) (k : KF) (K : KX β) :
    ob ((dcOf d).run v nv tm df h nx k) (kOut K) = kPut d v nv tm fun nv tm => ob (k nv tm df h nx) (kOut K) := by cases d <;> rfl
theorem kOp_eq (d : CD) (x : CK) (call : CallF) (nv : Env) (tm : TM) (df : Defs) (h : Heap) (nx : Nat) (k : KF) (K : KX β) :
    ob ((scOp (dcOf d) x).go call nv tm df h nx k) (kOut K) = kOp d x call nv tm df h nx (fun nv tm df h nx => ob (k nv tm df h nx) (kOut K)) K := by
  cases x with
  | rd f mem =>
    show ob (ob (f.run nv tm h) fun v => (dcOf d).run v nv tm df h nx k) (kOut K) = ob (f.run nv tm h) _
    rw [ob_ob]
    exact ob_congr fun v => kPut_eq d v nv tm df h nx k K
  | al f =>
    show ob (ob (f.run nv tm nx) fun r => (dcOf d).run r.1 nv tm df (hset h nx r.2) (Nat.succ nx) k) (kOut K) = ob (f.run nv tm nx) _
    rw [ob_ob]
    exact ob_congr fun r => kPut_eq d r.1 nv tm df _ _ k K
  | ac f =>
    show ob (ob (f.run call nv tm h nx nx) (actK (dcOf d) nv tm df k)) (kOut K) = ob (f.run call nv tm h nx nx) _
    rw [ob_ob]
    refine ob_congr fun r => ?_
    cases r with
    | val v h nx => exact kPut_eq d v nv tm df h nx k K
    | pan v h nx => rfl
  | df f l =>
    show ob (ob (f.run nv tm) (dfK (dcOf d) nv tm df h nx k l)) (kOut K) = ob (f.run nv tm) _
    rw [ob_ob]
    refine ob_congr fun v => ?_
    unfold dfK
    rw [ob_onFunc]
    congr 1
    funext g first cap
    rw [ob_ob]
    exact ob_congr fun args => kPut_eq d _ nv tm _ h nx k K
  | rc => rfl
  | no => rfl
theorem kIf_eq (d : CD) (x : CK) (b : Bool) (call : CallF) (nv : Env) (tm : TM) (df : Defs) (h : Heap) (nx : Nat) (k : KF) (K : KX β) :
    ob (sel b ((scOp (dcOf d) x).go call nv tm df h nx k) ((dcOf d).run (.tuple []) nv tm df h nx k)) (kOut K) = kIf d x b call nv tm df h nx (fun nv tm df h nx => ob (k nv tm df h nx) (kOut K)) K := by
  rw [ob_sel, kOp_eq, kPut_eq]
  cases x <;> cases b <;> rfl
theorem kGd_eq (c : CP) (call : CallF) (nv : Env) (tm : TM) (df : Defs) (h : Heap) (nx : Nat) (k : KF) (K : KX β) :
    ob ((scOf c).go call nv tm df h nx k) (kOut K) = kGd c call nv tm df h nx (fun nv tm df h nx => ob (k nv tm df h nx) (kOut K)) K := by
  unfold scOf kGd scG
  cases c.g with
  | yes => exact kOp_eq _ _ _ _ _ _ _ _ _ _
  | never => exact kPut_eq _ _ _ _ _ _ _ _ _
  | ask x want =>
    show ob (ob (x.run nv tm) fun v => ob (wantV want v) fun b => sel b ((scOp (dcOf c.d) c.k).go call nv tm df h nx k) ((dcOf c.d).run (.tuple []) nv tm df h nx k)) (kOut K) = _
    rw [ob_ob]
    refine ob_congr fun v => ?_
    rw [ob_ob]
    exact ob_congr fun b => kIf_eq _ _ b _ _ _ _ _ _ _ _
theorem kOps_eq (call : CallF) (K : KX β) : ∀ (l : List CP) (nv : Env) (tm : TM) (df : Defs) (h : Heap) (nx : Nat), ob ((ocList l).run call nv tm df h nx) (kOut K) = kOps l call nv tm df h nx K := by
  intro l
  induction l with
  | nil => intro nv tm df h nx; rfl
  | cons c l ih =>
    intro nv tm df h nx
    show ob ((scOf c).go call nv tm df h nx ((ocList l).run call)) (kOut K) = kGd c call nv tm df h nx (fun nv tm df h nx => kOps l call nv tm df h nx K) K
    rw [kGd_eq]
    congr 1
    funext nv tm df h nx
    exact ih nv tm df h nx

theorem kQuiet1_eq (es : List Nat) (base : Nat) (c : CA) (d : Draw) (k : Draw → Option β) : ob (quiet1 es base c d) k = kQuiet1 es base c d k := by
  unfold quiet1 kQuiet1
  rw [ob_guardB, ob_guardB, ob_ob]
  congr 2
  refine ob_congr fun b => ?_
  rw [ob_sel]
  unfold qOp kQOp
  cases c.op.k with
  | rd f mem =>
    cases b with
    | false => rfl
    | true =>
      show ob (ob (f.run [] d.tl d.h) _) k = ob (ob (f.run [] d.tl d.h) _) _
      rw [ob_ob, ob_ob]
      refine ob_congr fun v => ?_
      rw [ob_guardB, ob_guardB]; rfl
  | al f =>
    cases b with
    | false => rfl
    | true =>
      show ob (ob (f.run [] d.tl (Nat.add base c.i)) _) k = _
      rw [ob_ob]; rfl
  | _ => cases b <;> rfl
theorem kQuiet_eq (es : List Nat) (base : Nat) (pick : CA → Bool) (k : Draw → Option β) : ∀ (l : List CA) (d : Draw), ob (quietAll es base pick l d) k = kQuiet es base pick l d k := by
  intro l
  induction l with
  | nil => intro d; rfl
  | cons c l ih =>
    intro d
    show ob (sel (andB (pick c) (notB (hasBit d.done c.i))) (ob (quiet1 es base c d) (quietAll es base pick l)) (quietAll es base pick l d)) k = sel (andB (pick c) (notB (hasBit d.done c.i))) (kQuiet1 es base c d fun d => kQuiet es base pick l d k) (kQuiet es base pick l d k)
    rw [ob_sel, ob_ob, ih, ← kQuiet1_eq]
    congr 1
    exact ob_congr fun d => ih d

def kDOut (k : Draw → Option β) (K : KX β) (df : Defs) (r : DOut) : Option β := match r with
  | .ok d => k d
  | .pan v h nx => K h nx (.pan v) (.tr .nil) df
theorem kEffects_eq (es : List Nat) (base : Nat) (q : List CA) (call : CallF) (df : Defs) (k : Draw → Option β) (K : KX β) :
    ∀ (l : List CA) (prev : Nat) (d : Draw), ob (effects es base q call l prev d) (kDOut k K df) = kEffects es base q call l prev d df k K := by
  intro l
  induction l with
  | nil => intro prev d; rfl
  | cons c l ih =>
    intro prev d
    show ob (guardB (Nat.beq (Nat.land prev c.anc) prev) (ob (quietAll es base (fun x => hasBit c.anc x.i) q d) (eStep es base q call c (effects es base q call l (Nat.pow 2 c.i))))) (kDOut k K df) =
      guardB (Nat.beq (Nat.land prev c.anc) prev) (kQuiet es base (fun x => hasBit c.anc x.i) q d _)
    rw [ob_guardB, ob_ob, ← kQuiet_eq]
    congr 1
    refine ob_congr fun d => ?_
    unfold eStep
    rw [ob_guardB, ob_ob]
    congr 1
    refine ob_congr fun b => ?_
    unfold eOp kEOp
    cases c.op.k with
    | ac f =>
      cases b with
      | false => exact ih _ _
      | true =>
        show ob (ob (f.run call [] d.tl d.h (Nat.add base c.i) d.nx) _) _ = ob (f.run call [] d.tl d.h (Nat.add base c.i) d.nx) _
        rw [ob_ob]
        refine ob_congr fun r => ?_
        cases r with
        | val v h nx => exact ih _ _
        | pan v h nx =>
          show ob (ob (quietAll es base _ q d) fun _ => some (DOut.pan v h nx)) _ = kQuiet es base _ q d _
          rw [ob_ob, ← kQuiet_eq]; rfl
    | _ => cases b with
      | false => exact ih _ _
      | true => rfl
theorem kDraw_eq (p : Option Plan) (n : Nat) (call : CallF) (tm : TM) (df : Defs) (h : Heap) (nx : Nat) (K : KX β) : ob ((ccDraw p).run n call tm df h nx) (kOut K) = kDraw p call tm df h nx K := by
  cases p with
  | none => rfl
  | some p =>
    show ob (ob (effects p.es nx p.q call p.acts 0 ⟨tm, tm, h, Nat.add nx p.n, [], 0⟩) (drawK p df nx)) (kOut K) = kEffects p.es nx p.q call p.acts 0 ⟨tm, tm, h, Nat.add nx p.n, [], 0⟩ df _ K
    rw [ob_ob, ← kEffects_eq]
    refine ob_congr fun r => ?_
    cases r with
    | ok d =>
      show ob (ob (quietAll p.es nx (fun _ => true) p.q d) (drawEnd df)) (kOut K) = kQuiet p.es nx (fun _ => true) p.q d _
      rw [ob_ob, ← kQuiet_eq]; rfl
    | pan v h nx => rfl

theorem kThen_eq (f : NextF) (b : TM → Defs → Heap → Nat → KX β → Option β) (K : KX β) (hb : ∀ tm df h nx, ob (f tm df h nx) (kOut K) = b tm df h nx K) (o : Out) : ob (thenO f o) (kOut K) = kOut (kThen b K) o := by
  cases o with
  | mk e tm df h nx => cases e <;> first | rfl | exact hb tm df h nx
theorem kLoop_eq (f : RunF) (call : CallF) (a : TM → Defs → Heap → Nat → KX β → Option β) (ha : ∀ tm df h nx K, ob (f call tm df h nx) (kOut K) = a tm df h nx K) (K : KX β) :
    ∀ (n : Nat) (tm : TM) (df : Defs) (h : Heap) (nx : Nat), ob (loopN f n call tm df h nx) (kOut K) = kLoop a n tm df h nx K := by
  intro n
  induction n with
  | zero => intro tm df h nx; rfl
  | succ n ih =>
    intro tm df h nx
    show ob (ob (f call tm df h nx) (thenO (loopN f n call))) (kOut K) = a tm df h nx (kThen (kLoop a n) K)
    rw [ob_ob, ← ha]
    exact ob_congr fun o => kThen_eq _ _ K (fun tm df h nx => ih tm df h nx) o

theorem kCode_eq (N dp L : Nat) (c : Code) : ∀ (n : Nat) (call : CallF) (tm : TM) (df : Defs) (h : Heap) (nx : Nat) (K : KX β), ob ((cCode P N dp L c).run n call tm df h nx) (kOut K) = kCode P N dp L c n call tm df h nx K := by
  induction c with
  | skip => intros; rfl
  | region id ops draw =>
    intro n call tm df h nx K
    cases draw with
    | true => exact kDraw_eq _ n call tm df h nx K
    | false => exact kOps_eq call K _ [] tm df h nx
  | seq a b iha ihb =>
    intro n call tm df h nx K
    show ob (ob ((cCode P N dp L a).run n call tm df h nx) (thenO ((cCode P N dp L b).run n call))) (kOut K) = kCode P N dp L a n call tm df h nx (kThen (kCode P N dp L b n call) K)
    rw [ob_ob, ← iha]
    exact ob_congr fun o => kThen_eq _ _ K (fun tm df h nx => ihb n call tm df h nx K) o
  | cond c a b iha ihb =>
    intro n call tm df h nx K
    show ob (ob ((cO ⟨dp, L, [], P.globals.size⟩ c).run [] tm) fun v => onBool v fun t => (sel t (cCode P N dp L a) (cCode P N dp L b)).run n call tm df h nx) (kOut K) = ob ((cO ⟨dp, L, [], P.globals.size⟩ c).run [] tm) fun v => onBool v fun t => sel t (kCode P N dp L a n call tm df h nx K) (kCode P N dp L b n call tm df h nx K)
    rw [ob_ob]
    refine ob_congr fun v => ?_
    rw [ob_onBool]
    congr 1
    funext t
    cases t with
    | true => exact iha n call tm df h nx K
    | false => exact ihb n call tm df h nx K
  | block id a iha =>
    intro n call tm df h nx K
    show ob (ob ((cCode P N dp L a).run n call tm df h nx) (leaveO id)) (kOut K) = kCode P N dp L a n call tm df h nx (kLeave id K)
    rw [ob_ob, ← iha]
    refine ob_congr fun o => ?_
    cases o with
    | mk e tm df h nx =>
      cases e with
      | exit i =>
        show kOut K (.mk (leaveE id (.exit i)) tm df h nx) = sel (Nat.beq i id) (K h nx .normal tm df) (K h nx (.exit i) tm df)
        show kOut K (.mk (sel (Nat.beq i id) .normal (.exit i)) tm df h nx) = _
        cases Nat.beq i id <;> rfl
      | _ => rfl
  | loop a iha =>
    intro n call tm df h nx K
    exact kLoop_eq _ call (kCode P N dp L a n call) (fun tm df h nx K => iha n call tm df h nx K) K n tm df h nx
  | _ => intros; rfl

/-- a call, told with what follows -/
theorem call_eq {sp : Specs} {loc : FuncId → Nat} {n : Nat} {call : CallF} {f : FuncId} {fn : Func} {c : Code} (hf : P.funcs[f]? = some fn) (hb : fn.body = some c) (hsp : sp f = none) (args : List AV) (h : Heap) (nx : Nat) :
    callS P md sp loc n call f args h nx = guardB (andB (Nat.ble (llen args) fn.ntmps) (Nat.beq (Nat.mod (loc f) (Nat.pow 2 (llen args))) 0))
      (kCode P fn.ntmps (depthOf fn.ntmps) (loc f) c n call (argsT (depthOf fn.ntmps) args 0 (tmInit md)) [] h nx (kEnd P md loc n call (mapL (rsVar P (depthOf fn.ntmps)) fn.results.toList))) := by
  unfold callS
  rw [hsp]
  show ob (cFunc P loc f) (runF P md loc n call args h nx) = _
  unfold cFunc
  rw [lget_eq, Array.getElem?_toList, hf]
  show ob (cFunc1 P (loc f) fn) (runF P md loc n call args h nx) = _
  unfold cFunc1
  rw [hb]
  show guardB _ (ob ((cCode P fn.ntmps (depthOf fn.ntmps) (loc f) c).run n call (argsT (depthOf fn.ntmps) args 0 (tmInit md)) [] h nx) (endO P md loc n call (mapL (rsVar P (depthOf fn.ntmps)) fn.results.toList))) = _
  congr 1
  rw [← kCode_eq]
  refine ob_congr fun o => ?_
  cases o with
  | mk e tm df h nx => rfl
end thms
end Go.AE
end

/-
A symbolic executor: short names for what single operations do (for runs on inputs that are not known).
-/
noncomputable section
namespace Go.AE
/-! the small things once more, as words that rules may speak of -/
section
variable {α β : Type}
def bd (x : Option α) (f : α → Option β) : Option β := ob x f
def sl (b : Bool) (t e : α) : α := sel b t e
def gd (b : Bool) (x : Option α) : Option α := guardB b x
def an (a b : Bool) : Bool := andB a b
def nt (a : Bool) : Bool := notB a
def bb (x : Option α) (f : α → Bool) : Bool := obB x f
end
def letH {β : Type} (h : Heap) (nx : Nat) (f : Heap → Nat → Option β) : Option β := f h nx
/-- temporaries that are set, the latest first -/
def tmL (f : Nat → Option AV) (l : List (Nat × AV)) : Nat → Option AV := List.rec (motive := fun _ => Nat → Option AV) f (fun p _ ih => putF ih p.1 p.2) l
def tm0 : Nat → Option AV := fun _ => none
/-- a load of one cell, of a row of cells -/
def ld1 (h : Heap) (a : AV) : Option AV := onPtr a fun b o => loadB pkOne h b o
def ldA (n : Nat) (h : Heap) (a : AV) : Option AV := onPtr a fun b o => loadB (pkAgg n) h b o
/-- the address of a part -/
def adr (off : Nat) (a : AV) : Option AV := onPtr a fun b o => some (.ptr b (Nat.add o off))
def idx (sz : Nat) (v i : AV) : Option AV := onNat i (idxSl sz v)
/-- a store of n cells -/
def stR (n : Nat) (h : Heap) (nx : Nat) (p v : AV) : Option ARes := onPtr p fun b o => ob (putCells h b o n (cellsA v)) (skipR nx)
def boxR (id : Nat) (v : AV) : Option (AV × Blk) := guardB (Nat.blt 0 (llen (cellsA v))) (some (.ptr id 0, .cells (cellsA v)))
/-- parts laid over cells -/
def fillL (l : List (Nat × Nat × AV)) : List AV → Option (List AV) :=
  List.rec (motive := fun _ => List AV → Option (List AV)) (fun cs => some cs) (fun p _ ih cs => guardB (Nat.beq (llen (cellsA p.2.2)) p.2.1) (ob (lsplice p.1 (cellsA p.2.2) cs) ih)) l
def fillU (l : List (Nat × Nat × Option AV)) : List AV → Option (List AV) :=
  List.rec (motive := fun _ => List AV → Option (List AV)) (fun cs => some cs) (fun p _ ih cs => ob p.2.2 fun v => guardB (Nat.beq (llen (cellsA v)) p.2.1) (ob (lsplice p.1 (cellsA v) cs) ih)) l
def bldU (z : List AV) (l : List (Nat × Nat × Option AV)) : Option AV := ob (fillU l z) fun cs => some (.agg cs)
def rowU (id : Nat) (z : List AV) (len s : Nat) (l : List (Nat × Nat × Option AV)) : Option (AV × Blk) := ob (fillU l (repL z len)) fun cs => some (.slice id 0 len (some len) s, .cells cs)
/-- several values -/
def evU (l : List (Option AV)) : Option (List AV) := mapO (fun x => x) l
def clU (call : CallF) (g : FuncId) (l : List (Option AV)) (h : Heap) (nx : Nat) : Option ARes := ob (evU l) fun args => ob (call g args h nx) resR
def bld (z : List AV) (l : List (Nat × Nat × AV)) : Option AV := ob (fillL l z) fun cs => some (.agg cs)
def rowR (id : Nat) (z : List AV) (len s : Nat) (l : List (Nat × Nat × AV)) : Option (AV × Blk) := ob (fillL l (repL z len)) fun cs => some (.slice id 0 len (some len) s, .cells cs)
def pickV (c a b : AV) : Option AV := onBool c fun t => sel t (some a) (some b)
def minV (a b : AV) : Option AV := onInt a fun k m => onInt b fun _ n => some (.int k (sel (ltI n m) n m))
def maxV (a b : AV) : Option AV := onInt a fun k m => onInt b fun _ n => some (.int k (sel (ltI m n) n m))
def mapR (e : EQ) (h : Heap) (nx : Nat) (m k v : AV) : Option ARes := onMap m fun r => ob (mapSet e h r k v) (skipR nx)
def panR (v : AV) (h : Heap) (nx : Nat) : Option ARes := onIface v fun t w => some (.pan (.iface t w) h nx)
def extV (v : AV) (i : Nat) : Option AV := onTuple v fun l => lget l i
def fld1 (v : AV) (off : Nat) : Option AV := onAgg v fun cs => pkOne.run cs off
def fldA (n : Nat) (v : AV) (off : Nat) : Option AV := onAgg v fun cs => (pkAgg n).run cs off
/-- a function's results -/
def retL (l : List (Option AV)) (h : Heap) (nx : Nat) : Option CRes := ob (mapO (fun x => x) l) fun l => some (.ret (oneA l) h nx)
/-- what a call does -/
def clR (call : CallF) (g : FuncId) (l : List AV) (h : Heap) (nx : Nat) : Option ARes := ob (call g l h nx) resR

section
variable {β : Type} (P : Program) (N dp L : Nat) (n : Nat) (call : CallF) (tm : TM) (df : Defs) (h : Heap) (nx : Nat) (K : KX β)
theorem kCode_seq (a b : Code) : kCode P N dp L (.seq a b) n call tm df h nx K = kCode P N dp L a n call tm df h nx (kThen (kCode P N dp L b n call) K) := rfl
theorem kCode_block (id : Nat) (a : Code) : kCode P N dp L (.block id a) n call tm df h nx K = kCode P N dp L a n call tm df h nx (kLeave id K) := rfl
theorem kCode_loop (a : Code) : kCode P N dp L (.loop a) n call tm df h nx K = kLoop (kCode P N dp L a n call) n tm df h nx K := rfl
theorem kCode_cond (x : Operand) (a b : Code) : kCode P N dp L (.cond x a b) n call tm df h nx K =
  ob ((cO ⟨dp, L, [], P.globals.size⟩ x).run [] tm) fun v => onBool v fun t => sel t (kCode P N dp L a n call tm df h nx K) (kCode P N dp L b n call tm df h nx K) := rfl
end

theorem call_eq2 {P : Program} {md : Bool} {sp : Specs} {loc : FuncId → Nat} {f : FuncId} {fn : Func} {c : Code} {N dp L : Nat} {tm : TM} {args : List AV} (hf : P.funcs[f]? = some fn) (hb : fn.body = some c) (hN : fn.ntmps = N) (hdp : depthOf fn.ntmps = dp) (hL : loc f = L)
    (hg : andB (Nat.ble (llen args) fn.ntmps) (Nat.beq (Nat.mod (loc f) (Nat.pow 2 (llen args))) 0) = true) (ht : argsT dp args 0 (tmInit md) = tm) (hsp : sp f = none) (n : Nat) (call : CallF) (h : Heap) (nx : Nat) :
    callS P md sp loc n call f args h nx = kCode P N dp L c n call tm [] h nx (kEnd P md loc n call (mapL (rsVar P dp) fn.results.toList)) := by
  rw [call_eq hf hb hsp, hg, ← hN, ← hdp, ← hL, ← ht, hdp]

/-! parts of code -/
def cL (c : Code) : Code := match c with
  | .seq a _ => a
  | .cond _ a _ => a
  | .block _ a => a
  | .loop a => a
  | c => c
def cR (c : Code) : Code := match c with
  | .seq _ b => b
  | .cond _ _ b => b
  | c => c
end Go.AE
end

/-
A symbolic executor: runs that come to an answer, if they may go far enough; what single operations answer.
-/
namespace Go.AE

/-- with enough rounds and depth the answer is r -/
def Ev {α : Type} (g : Nat → Nat → Option α) (r : α) : Prop := ∃ k, ∀ n d, k ≤ n → k ≤ d → g n d = some r
section ev
variable {α β : Type}
theorem Ev.pure {g : Nat → Nat → Option α} {r : α} (h : ∀ n d, g n d = some r) : Ev g r := ⟨0, fun n d _ _ => h n d⟩
theorem Ev.some (r : α) : Ev (fun _ _ => some r) r := ⟨0, fun _ _ _ _ => rfl⟩
theorem Ev.congr {g g' : Nat → Nat → Option α} {r : α} (h : ∀ n d, g n d = g' n d) (hg : Ev g' r) : Ev g r := by
  obtain ⟨k, hk⟩ := hg
  exact ⟨k, fun n d h1 h2 => (h n d).trans (hk n d h1 h2)⟩
theorem Ev.bind {x : Nat → Nat → Option α} {f : Nat → Nat → α → Option β} {a : α} {r : β} (hx : Ev x a) (hf : Ev (fun n d => f n d a) r) : Ev (fun n d => bd (x n d) (f n d)) r := by
  obtain ⟨k, hk⟩ := hx
  obtain ⟨m, hm⟩ := hf
  refine ⟨max k m, fun n d h1 h2 => ?_⟩
  show bd (x n d) (f n d) = _
  rw [hk n d (by omega) (by omega)]
  exact hm n d (by omega) (by omega)
theorem Ev.late {g g' : Nat → Nat → Option α} {r : α} (k : Nat) (h : ∀ n d, k ≤ n → k ≤ d → g n d = g' n d) (hg : Ev g' r) : Ev g r := by
  obtain ⟨m, hm⟩ := hg
  exact ⟨max k m, fun n d h1 h2 => (h n d (by omega) (by omega)).trans (hm n d (by omega) (by omega))⟩
/-- one call deeper -/
theorem Ev.deeper {g : Nat → Nat → Option α} {g' : Nat → Nat → Option α} {r : α} (h : ∀ n d, g n (d + 1) = g' n d) (hg : Ev g' r) : Ev g r := by
  obtain ⟨k, hk⟩ := hg
  refine ⟨k + 1, fun n d h1 h2 => ?_⟩
  obtain ⟨d, rfl⟩ : ∃ e, d = e + 1 := ⟨d - 1, by omega⟩
  rw [h]
  exact hk n d (by omega) (by omega)
theorem Ev.call {c : Nat → Nat → CallF} {g : FuncId} {l : List AV} {h h' : Heap} {nx nx' : Nat} {v : AV} {kv kp : Nat → Nat → AV → Heap → Nat → Option β} {r : β}
    (hc : Ev (fun n d => c n d g l h nx) (.ret v h' nx')) (hk : Ev (fun n d => kv n d v h' nx') r) : Ev (fun n d => bd (clR (c n d) g l h nx) (ares (kv n d) (kp n d))) r := by
  obtain ⟨k, hk1⟩ := hc
  obtain ⟨m, hm⟩ := hk
  refine ⟨max k m, fun n d h1 h2 => ?_⟩
  show bd (bd (c n d g l h nx) resR) (ares (kv n d) (kp n d)) = _
  have e := hk1 n d (by omega) (by omega)
  change c n d g l h nx = _ at e
  rw [e]
  exact hm n d (by omega) (by omega)
theorem Ev.callPan {c : Nat → Nat → CallF} {g : FuncId} {l : List AV} {h h' : Heap} {nx nx' : Nat} {v : AV} {kv kp : Nat → Nat → AV → Heap → Nat → Option β} {r : β}
    (hc : Ev (fun n d => c n d g l h nx) (.pan v h' nx')) (hk : Ev (fun n d => kp n d v h' nx') r) : Ev (fun n d => bd (clR (c n d) g l h nx) (ares (kv n d) (kp n d))) r := by
  obtain ⟨k, hk1⟩ := hc
  obtain ⟨m, hm⟩ := hk
  refine ⟨max k m, fun n d h1 h2 => ?_⟩
  show bd (bd (c n d g l h nx) resR) (ares (kv n d) (kp n d)) = _
  have e := hk1 n d (by omega) (by omega)
  change c n d g l h nx = _ at e
  rw [e]
  exact hm n d (by omega) (by omega)
/-- a loop: one round -/
theorem kLoop_succ (a : TM → Defs → Heap → Nat → KX β → Option β) (m : Nat) (tm : TM) (df : Defs) (h : Heap) (nx : Nat) (K : KX β) : kLoop a (m + 1) tm df h nx K = a tm df h nx (kThen (kLoop a m) K) := rfl
theorem Ev.round {B : Nat → Nat → TM → Defs → Heap → Nat → KX β → Option β} {j : Nat} {tm : Nat → Nat → TM} {df : Defs} {h : Heap} {nx : Nat} {K : Nat → Nat → KX β} {r : β}
    (hr : Ev (fun n d => B n d (tm n d) df h nx (kThen (kLoop (B n d) (n - (j + 1))) (K n d))) r) : Ev (fun n d => kLoop (B n d) (n - j) (tm n d) df h nx (K n d)) r := by
  obtain ⟨k, hk⟩ := hr
  refine ⟨max k (j + 1), fun n d h1 h2 => ?_⟩
  have : n - j = (n - (j + 1)) + 1 := by omega
  show kLoop (B n d) (n - j) _ _ _ _ _ = _
  rw [this, kLoop_succ]
  exact hk n d (by omega) (by omega)
theorem Ev.loop {B : Nat → Nat → TM → Defs → Heap → Nat → KX β → Option β} {tm : Nat → Nat → TM} {df : Defs} {h : Heap} {nx : Nat} {K : Nat → Nat → KX β} {r : β}
    (hr : Ev (fun n d => kLoop (B n d) (n - 0) (tm n d) df h nx (K n d)) r) : Ev (fun n d => kLoop (B n d) n (tm n d) df h nx (K n d)) r := hr
end ev

/-! ## What single operations answer -/
theorem nd {α : Type} {a b : α} (h : a = b) : a = b := h
section rules
variable {α β γ : Type}
theorem r_ob (a : α) (f : α → Option β) : bd (some a) f = f a := nd rfl
theorem r_obN (f : α → Option β) : bd none f = none := nd rfl
theorem r_obB (a : α) (f : α → Bool) : bb (some a) f = f a := nd rfl
theorem r_selT (a b : α) : sl true a b = a := nd rfl
theorem r_selF (a b : α) : sl false a b = b := nd rfl
theorem r_guT (x : Option α) : gd true x = x := nd rfl
theorem r_andT (a : Bool) : an true a = a := nd rfl
theorem r_andT2 (a : Bool) : an a true = a := by cases a <;> rfl
theorem r_notT : nt true = false := nd rfl
theorem r_notF : nt false = true := nd rfl
theorem r_onPtr (b o : Nat) (k : Nat → Nat → Option β) : onPtr (.ptr b o) k = k b o := nd rfl
theorem r_onInt (j : IntKind) (z : Int) (k : IntKind → Int → Option β) : onInt (.int j z) k = k j z := nd rfl
theorem r_onBool (b : Bool) (k : Bool → Option β) : onBool (.bool b) k = k b := nd rfl
theorem r_onStr (n x : Nat) (k : Nat → Nat → Option β) : onStr (.str n x) k = k n x := nd rfl
theorem r_onIface (t : TypeId) (v : AV) (k : TypeId → AV → Option β) : onIface (.iface t v) k = k t v := nd rfl
theorem r_onTuple (l : List AV) (k : List AV → Option β) : onTuple (.tuple l) k = k l := nd rfl
theorem r_onAgg (l : List AV) (k : List AV → Option β) : onAgg (.agg l) k = k l := nd rfl
theorem r_onMap (r : Nat) (k : Nat → Option β) : onMap (.map r) k = k r := nd rfl
theorem r_onFunc (g : FuncId) (a c : List AV) (k : FuncId → List AV → List AV → Option β) : onFunc (.func g a c) k = k g a c := nd rfl
theorem r_onNat (j : IntKind) (m : Nat) (k : Nat → Option β) : onNat (.int j (m : Int)) k = k m := nd rfl
theorem r_onNatL (j : IntKind) (m : Nat) (k : Nat → Option β) : onNat (.int j (Int.ofNat m)) k = k m := nd rfl
theorem r_ld1 (h : Heap) (b o : Nat) : ld1 h (.ptr b o) = loadB pkOne h b o := nd rfl
theorem r_ldA (n : Nat) (h : Heap) (b o : Nat) : ldA n h (.ptr b o) = loadB (pkAgg n) h b o := nd rfl
theorem r_adr (k b o : Nat) : adr k (.ptr b o) = some (.ptr b (o + k)) := nd rfl
theorem r_nil (b o : Nat) : rNilV (.ptr b o) = some (.ptr b o) := nd rfl
theorem r_idx (z b o len c : Nat) (cap : Option Nat) (j : IntKind) (i : Nat) : idx z (.slice b o len cap c) (.int j (i : Int)) = gd (an (Nat.blt i len) (Nat.beq c z)) (some (.ptr b (o + i * z))) := nd rfl
theorem r_stR (n : Nat) (h : Heap) (nx b o : Nat) (v : AV) : stR n h nx (.ptr b o) v = bd (putCells h b o n (cellsA v)) (skipR nx) := nd rfl
theorem r_skipR (nx : Nat) (h : Heap) : skipR nx h = some (.val (.tuple []) h nx) := nd rfl
theorem r_cellsAgg (l : List AV) : cellsA (.agg l) = l := nd rfl
theorem r_cellsInt (k : IntKind) (z : Int) : cellsA (.int k z) = [.int k z] := nd rfl
theorem r_cellsStr (n x : Nat) : cellsA (.str n x) = [.str n x] := nd rfl
theorem r_cellsBool (b : Bool) : cellsA (.bool b) = [.bool b] := nd rfl
theorem r_cellsPtr (b o : Nat) : cellsA (.ptr b o) = [.ptr b o] := nd rfl
theorem r_cellsNilptr : cellsA .nilptr = [.nilptr] := nd rfl
theorem r_cellsNilslice : cellsA .nilslice = [.nilslice] := nd rfl
theorem r_cellsSlice (b o n : Nat) (c : Option Nat) (s : Nat) : cellsA (.slice b o n c s) = [.slice b o n c s] := nd rfl
theorem r_cellsMap (r : Nat) : cellsA (.map r) = [.map r] := nd rfl
theorem r_aresV (kv kp : AV → Heap → Nat → Option β) (v : AV) (h : Heap) (nx : Nat) : ares kv kp (.val v h nx) = kv v h nx := nd rfl
theorem r_aresP (kv kp : AV → Heap → Nat → Option β) (v : AV) (h : Heap) (nx : Nat) : ares kv kp (.pan v h nx) = kp v h nx := nd rfl
theorem r_unNot (b : Bool) : unNot (.bool b) = some (.bool (nt b)) := nd rfl
theorem r_wTT : wantV true (.bool true) = some true := nd rfl
theorem r_wTF : wantV true (.bool false) = some false := nd rfl
theorem r_wFT : wantV false (.bool true) = some false := nd rfl
theorem r_wFF : wantV false (.bool false) = some true := nd rfl
theorem r_pick (c : Bool) (a b : AV) : pickV (.bool c) a b = sl c (some a) (some b) := nd rfl
theorem r_panR (t : TypeId) (v : AV) (h : Heap) (nx : Nat) : panR (.iface t v) h nx = some (.pan (.iface t v) h nx) := nd rfl
theorem r_lenNil : lenSl .nilslice = some (.int .i64 (Int.ofNat 0)) := nd rfl
theorem r_lenSl (b o n : Nat) (c : Option Nat) (s : Nat) : lenSl (.slice b o n c s) = some (.int .i64 (n : Int)) := nd rfl
theorem r_minV (k j : IntKind) (m n : Int) : minV (.int k m) (.int j n) = some (.int k (sl (ltI n m) n m)) := nd rfl
theorem r_binInt (op : BinOp) (e : EQ) (g1 g2 : Bool) (m n : Int) : binV op e g1 g2 (.int .i64 n) (.int .i64 m) = intBin op .i64 m n := nd rfl
theorem r_binStr (op : BinOp) (e : EQ) (g1 g2 : Bool) (m x n y : Nat) : binV op e g1 g2 (.str n y) (.str m x) = strBin op m x n y := nd rfl
theorem r_pn1 (g1 g2 : Bool) : binV .neq ⟨eqPtrF⟩ g1 g2 .nilptr .nilptr = some (.bool false) := nd rfl
theorem r_pn2 (g1 g2 : Bool) (b o : Nat) : binV .neq ⟨eqPtrF⟩ g1 g2 .nilptr (.ptr b o) = some (.bool true) := nd rfl
theorem r_pe1 (g1 g2 : Bool) : binV .eql ⟨eqPtrF⟩ g1 g2 .nilptr .nilptr = some (.bool true) := nd rfl
theorem r_pe2 (g1 g2 : Bool) (b o : Nat) : binV .eql ⟨eqPtrF⟩ g1 g2 .nilptr (.ptr b o) = some (.bool false) := nd rfl
theorem r_thenN (b : TM → Defs → Heap → Nat → KX β → Option β) (K : KX β) (tm : TM) (df : Defs) (h : Heap) (nx : Nat) : kThen b K h nx .normal tm df = b tm df h nx K := nd rfl
theorem r_thenR (b : TM → Defs → Heap → Nat → KX β → Option β) (K : KX β) (tm : TM) (df : Defs) (h : Heap) (nx : Nat) : kThen b K h nx .ret tm df = K h nx .ret tm df := nd rfl
theorem r_thenE (b : TM → Defs → Heap → Nat → KX β → Option β) (K : KX β) (i : Nat) (tm : TM) (df : Defs) (h : Heap) (nx : Nat) : kThen b K h nx (.exit i) tm df = K h nx (.exit i) tm df := nd rfl
theorem r_thenP (b : TM → Defs → Heap → Nat → KX β → Option β) (K : KX β) (v : AV) (tm : TM) (df : Defs) (h : Heap) (nx : Nat) : kThen b K h nx (.pan v) tm df = K h nx (.pan v) tm df := nd rfl
theorem r_leaveN (id : Nat) (K : KX β) (tm : TM) (df : Defs) (h : Heap) (nx : Nat) : kLeave id K h nx .normal tm df = K h nx .normal tm df := nd rfl
theorem r_leaveR (id : Nat) (K : KX β) (tm : TM) (df : Defs) (h : Heap) (nx : Nat) : kLeave id K h nx .ret tm df = K h nx .ret tm df := nd rfl
theorem r_leaveE (id i : Nat) (K : KX β) (tm : TM) (df : Defs) (h : Heap) (nx : Nat) : kLeave id K h nx (.exit i) tm df = if i = id then K h nx .normal tm df else K h nx (.exit i) tm df := by
  show sel (Nat.beq i id) (K h nx .normal tm df) (K h nx (.exit i) tm df) = _
  by_cases e : i = id
  · subst e; rw [Nat.beq_refl, if_pos rfl]
  · rw [beq_ne e, if_neg e]
theorem r_leaveP (id : Nat) (K : KX β) (v : AV) (tm : TM) (df : Defs) (h : Heap) (nx : Nat) : kLeave id K h nx (.pan v) tm df = K h nx (.pan v) tm df := nd rfl
theorem r_letH (h : Heap) (nx : Nat) (f : Heap → Nat → Option β) : letH h nx f = f h nx := nd rfl
theorem r_tmL (f : Nat → Option AV) (a : Nat) (v : AV) (l : List (Nat × AV)) (t : Nat) : tmL f ((a, v) :: l) t = if t = a then some v else tmL f l t := by
  show sel (Nat.beq t a) (some v) (tmL f l t) = _
  by_cases h : t = a
  · subst h; rw [Nat.beq_refl, if_pos rfl]
  · rw [beq_ne h, if_neg h]
theorem r_tmN (f : Nat → Option AV) : tmL f [] = f := nd rfl
theorem r_ret1 (v : AV) (h : Heap) (nx : Nat) : retL [some v] h nx = some (.ret v h nx) := nd rfl
theorem r_ret0 (h : Heap) (nx : Nat) : retL [] h nx = some (.ret (.tuple []) h nx) := nd rfl
theorem r_ret2 (v u : AV) (h : Heap) (nx : Nat) : retL [some v, some u] h nx = some (.ret (.tuple [v, u]) h nx) := nd rfl
theorem r_ret3 (v u t : AV) (h : Heap) (nx : Nat) : retL [some v, some u, some t] h nx = some (.ret (.tuple [v, u, t]) h nx) := nd rfl
theorem r_beqV (v : AV) : beqV v v = true := beqV_refl v
theorem r_eql (k : IntKind) (a b : Int) : intBin .eql k a b = some (.bool (eqI a b)) := nd rfl
theorem r_neq (k : IntKind) (a b : Int) : intBin .neq k a b = some (.bool (nt (eqI a b))) := nd rfl
theorem r_lss (k : IntKind) (a b : Int) : intBin .lss k a b = some (.bool (ltI a b)) := nd rfl
theorem r_leq (k : IntKind) (a b : Int) : intBin .leq k a b = some (.bool (nt (ltI b a))) := nd rfl
theorem r_gtr (k : IntKind) (a b : Int) : intBin .gtr k a b = some (.bool (ltI b a)) := nd rfl
theorem r_geq (k : IntKind) (a b : Int) : intBin .geq k a b = some (.bool (nt (ltI a b))) := nd rfl
theorem r_add (k : IntKind) (a b : Int) : intBin .add k a b = some (.int k (wrapF k (addI a b))) := nd rfl
theorem r_sub (k : IntKind) (a b : Int) : intBin .sub k a b = some (.int k (wrapF k (subI a b))) := nd rfl
theorem r_mul (k : IntKind) (a b : Int) : intBin .mul k a b = some (.int k (wrapF k (mulI a b))) := nd rfl
theorem r_seql (n x m y : Nat) : strBin .eql n x m y = some (.bool (strEq n x m y)) := nd rfl
theorem r_sneq (n x m y : Nat) : strBin .neq n x m y = some (.bool (nt (strEq n x m y))) := nd rfl

/-! rewriting goes from the head on: what follows is looked at when its turn comes -/
@[congr] theorem bd_congr {x x' : Option α} (f : α → Option β) (h : x = x') : bd x f = bd x' f := by rw [h]
@[congr] theorem sl_congr {b b' : Bool} (t e : α) (h : b = b') : sl b t e = sl b' t e := by rw [h]
@[congr] theorem gd_congr {b b' : Bool} (x : Option α) (h : b = b') : gd b x = gd b' x := by rw [h]
@[congr] theorem bb_congr {x x' : Option α} (f : α → Bool) (h : x = x') : bb x f = bb x' f := by rw [h]
@[congr] theorem onBool_congr {v v' : AV} (k : Bool → Option β) (h : v = v') : onBool v k = onBool v' k := by rw [h]
@[congr] theorem ares_congr (kv kp : AV → Heap → Nat → Option β) {r r' : ARes} (h : r = r') : ares kv kp r = ares kv kp r' := by rw [h]

/-! memory -/
theorem r_loadB (k : PK) {h : Heap} {b : Nat} {cs : List AV} (o : Nat) (hb : hget h b = some (.cells cs)) : loadB k h b o = k.run cs o := by
  unfold loadB
  rw [hb]; rfl
theorem r_pkOne (cs : List AV) (o : Nat) : pkOne.run cs o = cs[o]? := lget_eq cs o
theorem ltake_eq {α : Type} : ∀ {n : Nat} {l : List α}, n ≤ l.length → ltake n l = some (l.take n) := by
  intro n
  induction n with
  | zero => intro l _; rfl
  | succ n ih =>
    intro l h
    cases l with
    | nil => simp at h
    | cons a l =>
      show bd (ltake n l) (fun q => some (a :: q)) = _
      rw [ih (by simpa using h)]; rfl
theorem pkAgg_run {cs l : List AV} {o n : Nat} (hl : (cs.drop o).take n = l) (hn : l.length = n) : (pkAgg n).run cs o = some (.agg l) := by
  show bd (ltake n (ldrop o cs)) (fun l => some (AV.agg l)) = _
  rw [ldrop_eq]
  have hle : n ≤ (cs.drop o).length := by rw [← hn, ← hl]; simp; omega
  rw [ltake_eq hle, hl]; rfl
end rules
/-- the rules, as one -/
theorem SY : (∀ {α β : Type} (a : α) (f : α → Option β), bd (some a) f = f a) ∧
    (∀ {α β : Type} (f : α → Option β), bd none f = none) ∧
    (∀ {α : Type} (a : α) (f : α → Bool), bb (some a) f = f a) ∧
    (∀ {α : Type} (a b : α), sl true a b = a) ∧
    (∀ {α : Type} (a b : α), sl false a b = b) ∧
    (∀ {α : Type} (x : Option α), gd true x = x) ∧
    (∀ (a : Bool), an true a = a) ∧
    (∀ (a : Bool), an a true = a) ∧
    (nt true = false) ∧
    (nt false = true) ∧
    (∀ {β : Type} (b o : Nat) (k : Nat → Nat → Option β), onPtr (.ptr b o) k = k b o) ∧
    (∀ {β : Type} (j : IntKind) (z : Int) (k : IntKind → Int → Option β), onInt (.int j z) k = k j z) ∧
    (∀ {β : Type} (b : Bool) (k : Bool → Option β), onBool (.bool b) k = k b) ∧
    (∀ {β : Type} (n x : Nat) (k : Nat → Nat → Option β), onStr (.str n x) k = k n x) ∧
    (∀ {β : Type} (t : TypeId) (v : AV) (k : TypeId → AV → Option β), onIface (.iface t v) k = k t v) ∧
    (∀ {β : Type} (l : List AV) (k : List AV → Option β), onTuple (.tuple l) k = k l) ∧
    (∀ {β : Type} (l : List AV) (k : List AV → Option β), onAgg (.agg l) k = k l) ∧
    (∀ {β : Type} (r : Nat) (k : Nat → Option β), onMap (.map r) k = k r) ∧
    (∀ {β : Type} (g : FuncId) (a c : List AV) (k : FuncId → List AV → List AV → Option β), onFunc (.func g a c) k = k g a c) ∧
    (∀ {β : Type} (j : IntKind) (m : Nat) (k : Nat → Option β), onNat (.int j (m : Int)) k = k m) ∧
    (∀ {β : Type} (j : IntKind) (m : Nat) (k : Nat → Option β), onNat (.int j (Int.ofNat m)) k = k m) ∧
    (∀ (h : Heap) (b o : Nat), ld1 h (.ptr b o) = loadB pkOne h b o) ∧
    (∀ (n : Nat) (h : Heap) (b o : Nat), ldA n h (.ptr b o) = loadB (pkAgg n) h b o) ∧
    (∀ (k b o : Nat), adr k (.ptr b o) = some (.ptr b (o + k))) ∧
    (∀ (b o : Nat), rNilV (.ptr b o) = some (.ptr b o)) ∧
    (∀ (z b o len c : Nat) (cap : Option Nat) (j : IntKind) (i : Nat), idx z (.slice b o len cap c) (.int j (i : Int)) = gd (an (Nat.blt i len) (Nat.beq c z)) (some (.ptr b (o + i * z)))) ∧
    (∀ (n : Nat) (h : Heap) (nx b o : Nat) (v : AV), stR n h nx (.ptr b o) v = bd (putCells h b o n (cellsA v)) (skipR nx)) ∧
    (∀ (nx : Nat) (h : Heap), skipR nx h = some (.val (.tuple []) h nx)) ∧
    (∀ (l : List AV), cellsA (.agg l) = l) ∧
    (∀ (k : IntKind) (z : Int), cellsA (.int k z) = [.int k z]) ∧
    (∀ (n x : Nat), cellsA (.str n x) = [.str n x]) ∧
    (∀ (b : Bool), cellsA (.bool b) = [.bool b]) ∧
    (∀ (b o : Nat), cellsA (.ptr b o) = [.ptr b o]) ∧
    (cellsA .nilptr = [.nilptr]) ∧
    (cellsA .nilslice = [.nilslice]) ∧
    (∀ (b o n : Nat) (c : Option Nat) (s : Nat), cellsA (.slice b o n c s) = [.slice b o n c s]) ∧
    (∀ (r : Nat), cellsA (.map r) = [.map r]) ∧
    (∀ {β : Type} (kv kp : AV → Heap → Nat → Option β) (v : AV) (h : Heap) (nx : Nat), ares kv kp (.val v h nx) = kv v h nx) ∧
    (∀ {β : Type} (kv kp : AV → Heap → Nat → Option β) (v : AV) (h : Heap) (nx : Nat), ares kv kp (.pan v h nx) = kp v h nx) ∧
    (∀ (b : Bool), unNot (.bool b) = some (.bool (nt b))) ∧
    (wantV true (.bool true) = some true) ∧
    (wantV true (.bool false) = some false) ∧
    (wantV false (.bool true) = some false) ∧
    (wantV false (.bool false) = some true) ∧
    (∀ (c : Bool) (a b : AV), pickV (.bool c) a b = sl c (some a) (some b)) ∧
    (∀ (t : TypeId) (v : AV) (h : Heap) (nx : Nat), panR (.iface t v) h nx = some (.pan (.iface t v) h nx)) ∧
    (lenSl .nilslice = some (.int .i64 (Int.ofNat 0))) ∧
    (∀ (b o n : Nat) (c : Option Nat) (s : Nat), lenSl (.slice b o n c s) = some (.int .i64 (n : Int))) ∧
    (∀ (k j : IntKind) (m n : Int), minV (.int k m) (.int j n) = some (.int k (sl (ltI n m) n m))) ∧
    (∀ (op : BinOp) (e : EQ) (g1 g2 : Bool) (m n : Int), binV op e g1 g2 (.int .i64 n) (.int .i64 m) = intBin op .i64 m n) ∧
    (∀ (op : BinOp) (e : EQ) (g1 g2 : Bool) (m x n y : Nat), binV op e g1 g2 (.str n y) (.str m x) = strBin op m x n y) ∧
    (∀ (g1 g2 : Bool), binV .neq ⟨eqPtrF⟩ g1 g2 .nilptr .nilptr = some (.bool false)) ∧
    (∀ (g1 g2 : Bool) (b o : Nat), binV .neq ⟨eqPtrF⟩ g1 g2 .nilptr (.ptr b o) = some (.bool true)) ∧
    (∀ (g1 g2 : Bool), binV .eql ⟨eqPtrF⟩ g1 g2 .nilptr .nilptr = some (.bool true)) ∧
    (∀ (g1 g2 : Bool) (b o : Nat), binV .eql ⟨eqPtrF⟩ g1 g2 .nilptr (.ptr b o) = some (.bool false)) ∧
    (∀ {β : Type} (h : Heap) (nx : Nat) (f : Heap → Nat → Option β), letH h nx f = f h nx) ∧
    (∀ (f : Nat → Option AV) (a : Nat) (v : AV) (l : List (Nat × AV)) (t : Nat), tmL f ((a, v) :: l) t = if t = a then some v else tmL f l t) ∧
    (∀ (f : Nat → Option AV), tmL f [] = f) ∧
    (∀ (v : AV) (h : Heap) (nx : Nat), retL [some v] h nx = some (.ret v h nx)) ∧
    (∀ (h : Heap) (nx : Nat), retL [] h nx = some (.ret (.tuple []) h nx)) ∧
    (∀ (v u : AV) (h : Heap) (nx : Nat), retL [some v, some u] h nx = some (.ret (.tuple [v, u]) h nx)) ∧
    (∀ (v u t : AV) (h : Heap) (nx : Nat), retL [some v, some u, some t] h nx = some (.ret (.tuple [v, u, t]) h nx)) ∧
    (∀ (v : AV), beqV v v = true) ∧
    (∀ (k : IntKind) (a b : Int), intBin .eql k a b = some (.bool (eqI a b))) ∧
    (∀ (k : IntKind) (a b : Int), intBin .neq k a b = some (.bool (nt (eqI a b)))) ∧
    (∀ (k : IntKind) (a b : Int), intBin .lss k a b = some (.bool (ltI a b))) ∧
    (∀ (k : IntKind) (a b : Int), intBin .leq k a b = some (.bool (nt (ltI b a)))) ∧
    (∀ (k : IntKind) (a b : Int), intBin .gtr k a b = some (.bool (ltI b a))) ∧
    (∀ (k : IntKind) (a b : Int), intBin .geq k a b = some (.bool (nt (ltI a b)))) ∧
    (∀ (k : IntKind) (a b : Int), intBin .add k a b = some (.int k (wrapF k (addI a b)))) ∧
    (∀ (k : IntKind) (a b : Int), intBin .sub k a b = some (.int k (wrapF k (subI a b)))) ∧
    (∀ (k : IntKind) (a b : Int), intBin .mul k a b = some (.int k (wrapF k (mulI a b)))) ∧
    (∀ (n x m y : Nat), strBin .eql n x m y = some (.bool (strEq n x m y))) ∧
    (∀ (n x m y : Nat), strBin .neq n x m y = some (.bool (nt (strEq n x m y)))) ∧
    (∀ (cs : List AV) (o : Nat), pkOne.run cs o = cs[o]?) ∧
    (∀ n : Nat, 0 + n = n) ∧
    (∀ n : Nat, n + 0 = n) ∧
    (∀ (a : AV) (l : List AV), (a :: l)[0]? = some a) ∧
    (∀ (a : AV) (l : List AV) (i : Nat), (a :: l)[i + 1]? = l[i]?) :=
  ⟨@r_ob, @r_obN, @r_obB, @r_selT, @r_selF, @r_guT, @r_andT, @r_andT2, @r_notT, @r_notF, @r_onPtr, @r_onInt, @r_onBool, @r_onStr, @r_onIface, @r_onTuple, @r_onAgg, @r_onMap, @r_onFunc, @r_onNat, @r_onNatL, @r_ld1, @r_ldA, @r_adr, @r_nil, @r_idx, @r_stR, @r_skipR, @r_cellsAgg, @r_cellsInt, @r_cellsStr, @r_cellsBool, @r_cellsPtr, @r_cellsNilptr, @r_cellsNilslice, @r_cellsSlice, @r_cellsMap, @r_aresV, @r_aresP, @r_unNot, @r_wTT, @r_wTF, @r_wFT, @r_wFF, @r_pick, @r_panR, @r_lenNil, @r_lenSl, @r_minV, @r_binInt, @r_binStr, @r_pn1, @r_pn2, @r_pe1, @r_pe2, @r_letH, @r_tmL, @r_tmN, @r_ret1, @r_ret0, @r_ret2, @r_ret3, @r_beqV, @r_eql, @r_neq, @r_lss, @r_leq, @r_gtr, @r_geq, @r_add, @r_sub, @r_mul, @r_seql, @r_sneq, @r_pkOne, Nat.zero_add, Nat.add_zero, fun _ _ => List.getElem?_cons_zero, fun _ _ _ => List.getElem?_cons_succ⟩
theorem KY : (∀ {β : Type} (b : TM → Defs → Heap → Nat → KX β → Option β) (K : KX β) (tm : TM) (df : Defs) (h : Heap) (nx : Nat), kThen b K h nx .normal tm df = b tm df h nx K) ∧
    (∀ {β : Type} (b : TM → Defs → Heap → Nat → KX β → Option β) (K : KX β) (tm : TM) (df : Defs) (h : Heap) (nx : Nat), kThen b K h nx .ret tm df = K h nx .ret tm df) ∧
    (∀ {β : Type} (b : TM → Defs → Heap → Nat → KX β → Option β) (K : KX β) (i : Nat) (tm : TM) (df : Defs) (h : Heap) (nx : Nat), kThen b K h nx (.exit i) tm df = K h nx (.exit i) tm df) ∧
    (∀ {β : Type} (b : TM → Defs → Heap → Nat → KX β → Option β) (K : KX β) (v : AV) (tm : TM) (df : Defs) (h : Heap) (nx : Nat), kThen b K h nx (.pan v) tm df = K h nx (.pan v) tm df) ∧
    (∀ {β : Type} (id : Nat) (K : KX β) (tm : TM) (df : Defs) (h : Heap) (nx : Nat), kLeave id K h nx .normal tm df = K h nx .normal tm df) ∧
    (∀ {β : Type} (id : Nat) (K : KX β) (tm : TM) (df : Defs) (h : Heap) (nx : Nat), kLeave id K h nx .ret tm df = K h nx .ret tm df) ∧
    (∀ {β : Type} (id i : Nat) (K : KX β) (tm : TM) (df : Defs) (h : Heap) (nx : Nat), kLeave id K h nx (.exit i) tm df = if i = id then K h nx .normal tm df else K h nx (.exit i) tm df) ∧
    (∀ {β : Type} (id : Nat) (K : KX β) (v : AV) (tm : TM) (df : Defs) (h : Heap) (nx : Nat), kLeave id K h nx (.pan v) tm df = K h nx (.pan v) tm df) :=
  ⟨@r_thenN, @r_thenR, @r_thenE, @r_thenP, @r_leaveN, @r_leaveR, @r_leaveE, @r_leaveP⟩
end Go.AE

/-
The language's terms and values as plain data; how they stand in memory.
-/
namespace Go.EV
open Go Go.AE

abbrev Str := Nat × Nat
def seq (a b : Str) : Bool := (a.1 == b.1) && (a.2 % 256 ^ a.1 == b.2 % 256 ^ b.1)
theorem seq_eq (n x m y : Nat) : strEq n x m y = seq (n, x) (m, y) := by
  unfold strEq seq
  show andB (Nat.beq n m) (Nat.beq (x % 256 ^ n) (y % 256 ^ m)) = ((n == m) && (x % 256 ^ n == y % 256 ^ m))
  have e : ∀ a b : Nat, Nat.beq a b = (a == b) := fun a b => by
    by_cases h : a = b
    · subst h; rw [Nat.beq_refl]; simp
    · rw [beq_ne h]; simp [h]
  rw [e, e]
  cases n == m <;> rfl
theorem seq_refl (a : Str) : seq a a = true := by simp [seq]

inductive Tm where
  | mk (kind : Int) (pkg name : Str) (n : Int) (kids : List Tm)
namespace Tm
def kind : Tm → Int | mk k _ _ _ _ => k
def pkg : Tm → Str | mk _ p _ _ _ => p
def name : Tm → Str | mk _ _ s _ _ => s
def n : Tm → Int | mk _ _ _ n _ => n
def kids : Tm → List Tm | mk _ _ _ _ l => l
end Tm

mutual
inductive Vl where
  | mk (kind : Int) (pkg name : Str) (n : Int) (kids : List Vl) (code : Option Tm) (env : List Fr)
inductive Fr where
  | mk (name : Str) (is : Vl) (rc : Option Tm)
end
namespace Vl
def kind : Vl → Int | mk k _ _ _ _ _ _ => k
def pkg : Vl → Str | mk _ p _ _ _ _ _ => p
def name : Vl → Str | mk _ _ s _ _ _ _ => s
def n : Vl → Int | mk _ _ _ n _ _ _ => n
def kids : Vl → List Vl | mk _ _ _ _ l _ _ => l
def code : Vl → Option Tm | mk _ _ _ _ _ c _ => c
def env : Vl → List Fr | mk _ _ _ _ _ _ e => e
def zero : Vl := mk 0 (0, 0) (0, 0) 0 [] none []
end Vl
namespace Fr
def name : Fr → Str | mk s _ _ => s
def is : Fr → Vl | mk _ v _ => v
def rc : Fr → Option Tm | mk _ _ t => t
end Fr

/-! ## What an evaluation comes to -/
inductive Res where
  | ok (v : Vl) (left : Nat)
  | err (e : Int) (left : Nat)
inductive ResL where
  | ok (l : List Vl) (left : Nat)
  | err (e : Int) (left : Nat)

def fits (t : Tm) : Bool :=
  if t.kind = 26 then decide (1 ≤ t.kids.length) else if t.kind = 30 then decide (1 ≤ t.kids.length) else if t.kind = 29 then decide (1 ≤ t.kids.length)
  else if t.kind = 27 then decide (2 ≤ t.kids.length) else if t.kind = 28 then decide (2 ≤ t.kids.length) else true

def findF (name : Str) : List Fr → List Fr
  | [] => []
  | f :: up => if seq f.name name then f :: up else findF name up

def findL (name : Str) : List (Str × Tm) → Option Tm
  | [] => none
  | p :: r => if seq name p.1 then some p.2 else findL name r

/-- does a value's outside fit a pattern's? -/
def heads (p : Tm) (v : Vl) : Bool := decide (v.kind = p.kind) && seq v.pkg p.pkg && seq v.name p.name && decide (v.n = p.n) && decide (v.kids.length = p.kids.length)
mutual
def takeP : Tm → Vl → List Fr → Option (List Fr)
  | .mk k p s n kids, v, env =>
    if k = 12 then some (Fr.mk s v none :: env) else if k = 11 then some env
    else if heads (.mk k p s n kids) v then takeL kids v.kids env else none
def takeL : List Tm → List Vl → List Fr → Option (List Fr)
  | [], _, env => some env
  | _ :: _, [], _ => none
  | p :: ps, v :: vs, env => match takeP p v env with
    | some e => takeL ps vs e
    | none => none
end

def allF (ev : Nat → Tm → Res) : Nat → List Tm → ResL
  | left, [] => .ok [] left
  | left, t :: ts => match ev left t with
    | .err e l => .err e l
    | .ok v l => match allF ev l ts with
      | .err e l => .err e l
      | .ok vs l => .ok (v :: vs) l

/-- the first arm that takes it; 'ev': the evaluation of an arm -/
def armF (ev : Nat → Tm → List Fr → Res) (v : Vl) (env : List Fr) (left : Nat) : List Tm → Res
  | p :: b :: r => match takeP p v env with
    | some e => ev left b e
    | none => armF ev v env left r
  | _ => .err 8 left

def varF (lets : List (Str × Tm)) (ev : Nat → Tm → List Fr → Res) (left : Nat) (t : Tm) (env : List Fr) : Res :=
  if seq t.pkg (0, 0) then
    match findF t.name env with
    | f :: up => match f.rc with
      | some b => ev left b (f :: up)
      | none => .ok f.is left
    | [] => match findL t.name lets with
      | some b => ev left b []
      | none => .err 8 left
  else .err 8 left
def appF (ev : Nat → Tm → List Fr → Res) (left : Nat) (t0 t1 : Tm) (env : List Fr) : Res := match ev left t0 env with
  | .err e l => .err e l
  | .ok f l => match ev l t1 env with
    | .err e l => .err e l
    | .ok a l => match f.code with
      | none => .err 8 l
      | some c => match c.kids with
        | [] => .err 8 l
        | b :: _ => ev l b (Fr.mk c.name a none :: f.env)
def letF (ev : Nat → Tm → List Fr → Res) (left : Nat) (t t0 t1 : Tm) (env : List Fr) : Res :=
  if t.n = 1 then ev left t1 (Fr.mk t.name Vl.zero (some t0) :: env)
  else match ev left t0 env with
    | .err e l => .err e l
    | .ok v l => ev l t1 (Fr.mk t.name v none :: env)
def matF (ev : Nat → Tm → List Fr → Res) (left : Nat) (t0 : Tm) (arms : List Tm) (env : List Fr) : Res := match ev left t0 env with
  | .err e l => .err e l
  | .ok v l => armF ev v env l arms

def bodyF (lets : List (Str × Tm)) (ev : Nat → Tm → List Fr → Res) (left : Nat) (t : Tm) (env : List Fr) : Res :=
  if t.kind = 21 then varF lets ev left t env
  else if t.kind = 22 then .ok (.mk 13 (0, 0) (0, 0) t.n [] none []) left
  else if t.kind = 23 then .ok (.mk 14 (0, 0) t.name 0 [] none []) left
  else if t.kind = 25 then match allF (fun l t => ev l t env) left t.kids with
    | .err e l => .err e l
    | .ok vs l => .ok (.mk 16 (0, 0) (0, 0) 0 vs none []) l
  else if t.kind = 24 then match allF (fun l t => ev l t env) left t.kids with
    | .err e l => .err e l
    | .ok vs l => .ok (.mk 15 t.pkg t.name 0 vs none []) l
  else if t.kind = 26 then .ok (.mk 11 (0, 0) (0, 0) 0 [] (some t) env) left
  else if t.kind = 27 then match t.kids with
    | t0 :: t1 :: _ => appF ev left t0 t1 env
    | _ => .err 8 left
  else if t.kind = 28 then match t.kids with
    | t0 :: t1 :: _ => letF ev left t t0 t1 env
    | _ => .err 8 left
  else if t.kind = 29 then match t.kids with
    | t0 :: arms => matF ev left t0 arms env
    | _ => .err 8 left
  else if t.kind = 30 then match t.kids with
    | t0 :: _ => ev left t0 env
    | _ => .err 8 left
  else .err 8 left

/-- an evaluation: 'left': how many steps may be taken; 'fuel': at least as many -/
def evalF (lets : List (Str × Tm)) : Nat → Nat → Tm → List Fr → Res
  | 0, left, _, _ => .err 9 left
  | fuel + 1, left, t, env => match left with
    | 0 => .err 9 0
    | left + 1 => if fits t then bodyF lets (evalF lets fuel) left t env else .err 8 left

/-! ## How they stand in memory: by what stands fast -/
abbrev Sto := Nat → Option Blk
mutual
inductive RdTB (B : Nat) (σ : Sto) : Tm → List AV → Prop where
  | mk (k : Int) (p s : Str) (n : Int) (kids : List Tm) (ks : AV) (h : RdKsB B σ kids ks) : RdTB B σ (.mk k p s n kids) [.int .i64 k, .str p.1 p.2, .str s.1 s.2, .int .i64 n, ks]
inductive RdKsB (B : Nat) (σ : Sto) : List Tm → AV → Prop where
  | nil : RdKsB B σ [] .nilslice
  | row (kids : List Tm) (b o : Nat) (cap : Option Nat) (cs : List AV) (hb : σ b = some (.cells cs)) (hlt : kids.length < B) (h : RdSB B σ kids cs o) : RdKsB B σ kids (.slice b o kids.length cap 5)
inductive RdSB (B : Nat) (σ : Sto) : List Tm → List AV → Nat → Prop where
  | nil (cs : List AV) (o : Nat) : RdSB B σ [] cs o
  | cons (t : Tm) (ts : List Tm) (cs : List AV) (o : Nat) (h : RdTB B σ t ((cs.drop o).take 5)) (r : RdSB B σ ts cs (o + 5)) : RdSB B σ (t :: ts) cs o
end
/-- a term where a pointer leads -/
def RdPB (B : Nat) (σ : Sto) (t : Tm) (b o : Nat) : Prop := ∃ cs, σ b = some (.cells cs) ∧ RdTB B σ t ((cs.drop o).take 5)
inductive RdOB (B : Nat) (σ : Sto) : Option Tm → AV → Prop where
  | none : RdOB B σ none .nilptr
  | some (t : Tm) (b o : Nat) (h : RdPB B σ t b o) : RdOB B σ (some t) (.ptr b o)
mutual
inductive RdVB (B : Nat) (σ : Sto) : Vl → List AV → Prop where
  | mk (k : Int) (p s : Str) (n : Int) (kids : List Vl) (c : Option Tm) (env : List Fr) (ks cv ev : AV) (h : RdVsB B σ kids ks) (hc : RdOB B σ c cv) (he : RdEB B σ env ev) (hne : ∀ t, c = some t → t.kids ≠ []) :
      RdVB B σ (.mk k p s n kids c env) [.int .i64 k, .str p.1 p.2, .str s.1 s.2, .int .i64 n, ks, cv, ev]
inductive RdVsB (B : Nat) (σ : Sto) : List Vl → AV → Prop where
  | nil : RdVsB B σ [] .nilslice
  | row (kids : List Vl) (b o : Nat) (cap : Option Nat) (cs : List AV) (hb : σ b = some (.cells cs)) (hlt : kids.length < B) (h : RdVrB B σ kids cs o) : RdVsB B σ kids (.slice b o kids.length cap 7)
inductive RdVrB (B : Nat) (σ : Sto) : List Vl → List AV → Nat → Prop where
  | nil (cs : List AV) (o : Nat) : RdVrB B σ [] cs o
  | cons (v : Vl) (vs : List Vl) (cs : List AV) (o : Nat) (h : RdVB B σ v ((cs.drop o).take 7)) (r : RdVrB B σ vs cs (o + 7)) : RdVrB B σ (v :: vs) cs o
inductive RdEB (B : Nat) (σ : Sto) : List Fr → AV → Prop where
  | nil : RdEB B σ [] .nilptr
  | cons (s : Str) (v : Vl) (rc : Option Tm) (up : List Fr) (b : Nat) (l : List AV) (rv uv : AV) (hb : σ b = some (.cells (.str s.1 s.2 :: (l ++ [rv, uv])))) (hv : RdVB B σ v l) (hr : RdOB B σ rc rv) (hu : RdEB B σ up uv) : RdEB B σ (.mk s v rc :: up) (.ptr b 0)
end

abbrev Sto.le (σ τ : Sto) : Prop := ∀ b x, σ b = some x → τ b = some x
mutual
theorem RdTB.mono {B : Nat} {σ τ : Sto} (h : Sto.le σ τ) : ∀ {t : Tm} {l : List AV}, RdTB B σ t l → RdTB B τ t l
  | _, _, .mk k p s n kids ks hk => .mk k p s n kids ks (RdKsB.mono h hk)
theorem RdKsB.mono {B : Nat} {σ τ : Sto} (h : Sto.le σ τ) : ∀ {l : List Tm} {v : AV}, RdKsB B σ l v → RdKsB B τ l v
  | _, _, .nil => .nil
  | _, _, .row kids b o cap cs hb hl hs => .row kids b o cap cs (h _ _ hb) hl (RdSB.mono h hs)
theorem RdSB.mono {B : Nat} {σ τ : Sto} (h : Sto.le σ τ) : ∀ {l : List Tm} {cs : List AV} {o : Nat}, RdSB B σ l cs o → RdSB B τ l cs o
  | _, _, _, .nil cs o => .nil cs o
  | _, _, _, .cons t ts cs o ht hr => .cons t ts cs o (RdTB.mono h ht) (RdSB.mono h hr)
end
theorem RdPB.mono {B : Nat} {σ τ : Sto} (h : Sto.le σ τ) {t : Tm} {b o : Nat} : RdPB B σ t b o → RdPB B τ t b o := fun ⟨cs, h1, h2⟩ => ⟨cs, h _ _ h1, h2.mono h⟩
theorem RdOB.mono {B : Nat} {σ τ : Sto} (h : Sto.le σ τ) {t : Option Tm} {v : AV} : RdOB B σ t v → RdOB B τ t v
  | .none => .none
  | .some t b o hp => .some t b o (hp.mono h)
mutual
theorem RdVB.mono {B : Nat} {σ τ : Sto} (h : Sto.le σ τ) : ∀ {v : Vl} {l : List AV}, RdVB B σ v l → RdVB B τ v l
  | _, _, .mk k p s n kids c env ks cv ev hk hc he hne => .mk k p s n kids c env ks cv ev (RdVsB.mono h hk) (hc.mono h) (RdEB.mono h he) hne
theorem RdVsB.mono {B : Nat} {σ τ : Sto} (h : Sto.le σ τ) : ∀ {l : List Vl} {v : AV}, RdVsB B σ l v → RdVsB B τ l v
  | _, _, .nil => .nil
  | _, _, .row kids b o cap cs hb hl hs => .row kids b o cap cs (h _ _ hb) hl (RdVrB.mono h hs)
theorem RdVrB.mono {B : Nat} {σ τ : Sto} (h : Sto.le σ τ) : ∀ {l : List Vl} {cs : List AV} {o : Nat}, RdVrB B σ l cs o → RdVrB B τ l cs o
  | _, _, _, .nil cs o => .nil cs o
  | _, _, _, .cons v vs cs o hv hr => .cons v vs cs o (RdVB.mono h hv) (RdVrB.mono h hr)
theorem RdEB.mono {B : Nat} {σ τ : Sto} (h : Sto.le σ τ) : ∀ {l : List Fr} {v : AV}, RdEB B σ l v → RdEB B τ l v
  | _, _, .nil => .nil
  | _, _, .cons s v rc up b l rv uv hb hv hr hu => .cons s v rc up b l rv uv (h _ _ hb) (RdVB.mono h hv) (hr.mono h) (RdEB.mono h hu)
end
/-! lists shorter than 2 ^ 62 -/
abbrev RdT (σ : Sto) := RdTB 4611686018427387904 σ
abbrev RdKs (σ : Sto) := RdKsB 4611686018427387904 σ
abbrev RdS (σ : Sto) := RdSB 4611686018427387904 σ
abbrev RdP (σ : Sto) := RdPB 4611686018427387904 σ
abbrev RdO (σ : Sto) := RdOB 4611686018427387904 σ
abbrev RdVs (σ : Sto) := RdVsB 4611686018427387904 σ
abbrev RdVr (σ : Sto) := RdVrB 4611686018427387904 σ
abbrev RdV (σ : Sto) := RdVB 4611686018427387904 σ
abbrev RdE (σ : Sto) := RdEB 4611686018427387904 σ
end Go.EV

/-
Evaluation, as plain data: more steps than enough change nothing; fewer are too few; what let, application and match of a name come to.
-/
namespace Go.EV
open Go Go.AE

def OutLe (left : Nat) (r : Res) : Prop := match r with
  | .ok _ l => l ≤ left
  | .err _ l => l ≤ left
def OutLeL (left : Nat) (r : ResL) : Prop := match r with
  | .ok _ l => l ≤ left
  | .err _ l => l ≤ left
theorem OutLe.le {a b : Nat} {r : Res} (h : OutLe a r) (hab : a ≤ b) : OutLe b r := by cases r <;> exact Nat.le_trans h hab

section
variable {ev : Nat → Tm → List Fr → Res} (hev : ∀ l t env, OutLe l (ev l t env))
include hev
theorem then_out {left : Nat} {t : Tm} {env : List Fr} {k : Vl → Nat → Res} (hk : ∀ v l, OutLe l (k v l)) : OutLe left (match ev left t env with | .err e l => .err e l | .ok v l => k v l) := by
  have h := hev left t env
  cases hr : ev left t env with
  | err e l => rw [hr] at h; exact h
  | ok v l => rw [hr] at h; exact (hk v l).le h
theorem allF_out (env : List Fr) : ∀ (ts : List Tm) (left : Nat), OutLeL left (allF (fun l t => ev l t env) left ts) := by
  intro ts
  induction ts with
  | nil => intro left; exact Nat.le_refl _
  | cons t ts ih =>
    intro left
    have h := hev left t env
    unfold allF
    cases hr : ev left t env with
    | err e l => rw [hr] at h; exact h
    | ok v l =>
      rw [hr] at h
      have h3 := ih l
      simp only
      cases hr2 : allF (fun l t => ev l t env) l ts with
      | err e l2 => rw [hr2] at h3; exact Nat.le_trans h3 h
      | ok vs l2 => rw [hr2] at h3; exact Nat.le_trans h3 h
theorem armF_out (v : Vl) (env : List Fr) : ∀ (k : Nat) (arms : List Tm) (left : Nat), arms.length ≤ k → OutLe left (armF ev v env left arms) := by
  intro k
  induction k with
  | zero =>
    intro arms left h
    have : arms = [] := List.eq_nil_of_length_eq_zero (by omega)
    subst this
    exact Nat.le_refl _
  | succ k ih =>
    intro arms left h
    match arms, h with
    | [], _ => exact Nat.le_refl _
    | [_], _ => exact Nat.le_refl _
    | p :: b :: r, h =>
      unfold armF
      cases takeP p v env with
      | some e => exact hev left b e
      | none => exact ih r left (by simp at h; omega)
theorem bodyF_out (lets : List (Str × Tm)) (left : Nat) (t : Tm) (env : List Fr) : OutLe left (bodyF lets ev left t env) := by
  unfold bodyF
  split
  · unfold varF
    split
    · split
      · split
        · exact hev left _ _
        · exact Nat.le_refl _
      · split
        · exact hev left _ _
        · exact Nat.le_refl _
    · exact Nat.le_refl _
  split
  · exact Nat.le_refl _
  split
  · exact Nat.le_refl _
  split
  · have h := allF_out hev env t.kids left
    cases hr : allF (fun l t => ev l t env) left t.kids <;> (rw [hr] at h; exact h)
  split
  · have h := allF_out hev env t.kids left
    cases hr : allF (fun l t => ev l t env) left t.kids <;> (rw [hr] at h; exact h)
  split
  · exact Nat.le_refl _
  split
  · split
    · unfold appF
      refine then_out hev (fun f l => then_out hev (fun a l2 => ?_))
      split
      · exact Nat.le_refl _
      · split
        · exact Nat.le_refl _
        · exact hev _ _ _
    · exact Nat.le_refl _
  split
  · split
    · unfold letF
      split
      · exact hev _ _ _
      · exact then_out hev (fun v l => hev _ _ _)
    · exact Nat.le_refl _
  split
  · split
    · unfold matF
      exact then_out hev (fun v l => armF_out hev v env _ _ l (Nat.le_refl _))
    · exact Nat.le_refl _
  split
  · split
    · exact hev _ _ _
    · exact Nat.le_refl _
  · exact Nat.le_refl _
end
theorem evalF_out (lets : List (Str × Tm)) : ∀ (fuel left : Nat) (t : Tm) (env : List Fr), OutLe left (evalF lets fuel left t env) := by
  intro fuel
  induction fuel with
  | zero => intro left t env; exact Nat.le_refl _
  | succ f ih =>
    intro left t env
    cases left with
    | zero => exact Nat.le_refl _
    | succ l =>
      show OutLe (l + 1) (if fits t then bodyF lets (evalF lets f) l t env else .err 8 l)
      split
      · exact (bodyF_out ih lets l t env).le (Nat.le_succ _)
      · exact Nat.le_succ _

/-- fewer than 'c' steps are left, or they did not suffice -/
def Low (c : Nat) (r : Res) : Prop := match r with
  | .ok _ l => l < c
  | .err e l => e = 9 ∨ l < c
def LowL (c : Nat) (r : ResL) : Prop := match r with
  | .ok _ l => l < c
  | .err e l => e = 9 ∨ l < c
theorem OutLe.low {l c : Nat} {r : Res} (h : OutLe l r) (hl : l < c) : Low c r := by
  cases r with
  | ok v k => exact Nat.lt_of_le_of_lt h hl
  | err e k => exact .inr (Nat.lt_of_le_of_lt h hl)
/-- 'r', told with 'c' steps more -/
def Shf (c : Nat) (r r' : Res) : Prop := match r with
  | .ok v l => r' = .ok v (l + c)
  | .err e l => (e = 8 ∧ r' = .err 8 (l + c)) ∨ (e = 9 ∧ l = 0 ∧ Low c r')
def ShfL (c : Nat) (r r' : ResL) : Prop := match r with
  | .ok v l => r' = .ok v (l + c)
  | .err e l => (e = 8 ∧ r' = .err 8 (l + c)) ∨ (e = 9 ∧ l = 0 ∧ LowL c r')
theorem Shf.e8 {c left : Nat} : Shf c (.err 8 left) (.err 8 (left + c)) := .inl ⟨rfl, rfl⟩
theorem Shf.okv {c left : Nat} {v : Vl} : Shf c (.ok v left) (.ok v (left + c)) := rfl

theorem shf_ite {c : Nat} {p : Prop} [Decidable p] {r s r' s' : Res} (h : p → Shf c r r') (h' : ¬ p → Shf c s s') : Shf c (if p then r else s) (if p then r' else s') := by
  by_cases hp : p
  · rw [if_pos hp, if_pos hp]; exact h hp
  · rw [if_neg hp, if_neg hp]; exact h' hp

section
variable {c B : Nat} {ev ev' : Nat → Tm → List Fr → Res} (hout : ∀ l t env, OutLe l (ev l t env)) (hout' : ∀ l t env, OutLe l (ev' l t env)) (hev : ∀ l, l ≤ B → ∀ t env, Shf c (ev l t env) (ev' (l + c) t env))
include hout hout' hev

theorem allF_shift (env : List Fr) : ∀ (ts : List Tm) (left : Nat), left ≤ B → ShfL c (allF (fun l t => ev l t env) left ts) (allF (fun l t => ev' l t env) (left + c) ts) := by
  intro ts
  induction ts with
  | nil => intro left _; exact rfl
  | cons t ts ih =>
    intro left hl
    have h := hev left hl t env
    have ho := hout left t env
    unfold allF
    cases hr : ev left t env with
    | err e l =>
      rw [hr] at h
      rcases h with ⟨rfl, h2⟩ | ⟨rfl, rfl, h2⟩
      · rw [h2]; exact .inl ⟨rfl, rfl⟩
      · refine .inr ⟨rfl, rfl, ?_⟩
        cases hr' : ev' (left + c) t env with
        | err e l => rw [hr'] at h2; exact h2
        | ok v l =>
          rw [hr'] at h2
          change l < c at h2
          have h3 := allF_out hout' env ts l
          simp only
          cases hr2 : allF (fun l t => ev' l t env) l ts with
          | err e l2 => rw [hr2] at h3; change l2 ≤ l at h3; exact .inr (by omega)
          | ok vs l2 => rw [hr2] at h3; change l2 ≤ l at h3; show l2 < c; omega
    | ok v l =>
      rw [hr] at h ho
      change ev' (left + c) t env = .ok v (l + c) at h
      change l ≤ left at ho
      rw [h]
      have h3 := ih l (by omega)
      simp only
      cases hr2 : allF (fun l t => ev l t env) l ts with
      | err e l2 =>
        rw [hr2] at h3
        rcases h3 with ⟨rfl, h5⟩ | ⟨rfl, rfl, h5⟩
        · rw [h5]; exact .inl ⟨rfl, rfl⟩
        · refine .inr ⟨rfl, rfl, ?_⟩
          cases hr3 : allF (fun l t => ev' l t env) (l + c) ts <;> (rw [hr3] at h5; exact h5)
      | ok vs l2 =>
        rw [hr2] at h3
        change allF (fun l t => ev' l t env) (l + c) ts = .ok vs (l2 + c) at h3
        rw [h3]; rfl

theorem ev_then {left : Nat} {t : Tm} {env : List Fr} (hl : left ≤ B) {k k' : Vl → Nat → Res} (hk' : ∀ v l, OutLe l (k' v l)) (hk : ∀ v l, l ≤ left → Shf c (k v l) (k' v (l + c))) :
    Shf c (match ev left t env with | .err e l => .err e l | .ok v l => k v l) (match ev' (left + c) t env with | .err e l => .err e l | .ok v l => k' v l) := by
  have _ := hout'
  have h := hev left hl t env
  have ho := hout left t env
  cases hr : ev left t env with
  | err e l =>
    rw [hr] at h
    rcases h with ⟨rfl, h2⟩ | ⟨rfl, rfl, h2⟩
    · rw [h2]; exact .inl ⟨rfl, rfl⟩
    · refine .inr ⟨rfl, rfl, ?_⟩
      cases hr' : ev' (left + c) t env with
      | err e l => rw [hr'] at h2; exact h2
      | ok v l => rw [hr'] at h2; exact (hk' v l).low h2
  | ok v l =>
    rw [hr] at h ho
    change ev' (left + c) t env = .ok v (l + c) at h
    rw [h]
    exact hk v l ho

theorem armF_shift (v : Vl) (env : List Fr) : ∀ (k : Nat) (arms : List Tm) (left : Nat), arms.length ≤ k → left ≤ B → Shf c (armF ev v env left arms) (armF ev' v env (left + c) arms) := by
  have _ := hout
  have _ := hout'
  intro k
  induction k with
  | zero =>
    intro arms left h _
    have : arms = [] := List.eq_nil_of_length_eq_zero (by omega)
    subst this
    exact Shf.e8
  | succ k ih =>
    intro arms left h hl
    match arms, h with
    | [], _ => exact Shf.e8
    | [_], _ => exact Shf.e8
    | p :: b :: r, h =>
      unfold armF
      cases takeP p v env with
      | some e => exact hev left hl b e
      | none => exact ih r left (by simp at h; omega) hl

theorem all_then (env : List Fr) (ts : List Tm) {left : Nat} (hl : left ≤ B) (f : List Vl → Vl) :
    Shf c (match allF (fun l t => ev l t env) left ts with | .err e l => .err e l | .ok vs l => .ok (f vs) l) (match allF (fun l t => ev' l t env) (left + c) ts with | .err e l => .err e l | .ok vs l => .ok (f vs) l) := by
  have h := allF_shift hout hout' hev env ts left hl
  cases hr : allF (fun l t => ev l t env) left ts with
  | err e l =>
    rw [hr] at h
    rcases h with ⟨rfl, h2⟩ | ⟨rfl, rfl, h2⟩
    · rw [h2]; exact .inl ⟨rfl, rfl⟩
    · refine .inr ⟨rfl, rfl, ?_⟩
      cases hr3 : allF (fun l t => ev' l t env) (left + c) ts <;> (rw [hr3] at h2; exact h2)
  | ok vs l =>
    rw [hr] at h
    change allF (fun l t => ev' l t env) (left + c) ts = .ok vs (l + c) at h
    rw [h]; rfl

theorem bodyF_shift (lets : List (Str × Tm)) (left : Nat) (hl : left ≤ B) (t : Tm) (env : List Fr) : Shf c (bodyF lets ev left t env) (bodyF lets ev' (left + c) t env) := by
  unfold bodyF
  refine shf_ite (fun _ => ?_) fun _ => ?_
  · unfold varF
    refine shf_ite (fun _ => ?_) fun _ => Shf.e8
    cases findF t.name env with
    | cons f up =>
      simp only
      cases f.rc with
      | some b => exact hev left hl _ _
      | none => exact Shf.okv
    | nil =>
      simp only
      cases findL t.name lets with
      | some b => exact hev left hl _ _
      | none => exact Shf.e8
  refine shf_ite (fun _ => Shf.okv) fun _ => shf_ite (fun _ => Shf.okv) fun _ => shf_ite (fun _ => all_then hout hout' hev env t.kids hl _) fun _ => shf_ite (fun _ => all_then hout hout' hev env t.kids hl _) fun _ => shf_ite (fun _ => Shf.okv) fun _ => ?_
  refine shf_ite (fun _ => ?_) fun _ => ?_
  · split
    · unfold appF
      refine ev_then hout hout' hev hl (fun f l => then_out hout' (fun a l2 => ?_)) (fun f l h1 => ev_then hout hout' hev (by omega : l ≤ B) (fun a l2 => ?_) (fun a l2 h2 => ?_))
      · split
        · exact Nat.le_refl _
        · split
          · exact Nat.le_refl _
          · exact hout' _ _ _
      · split
        · exact Nat.le_refl _
        · split
          · exact Nat.le_refl _
          · exact hout' _ _ _
      · split
        · exact Shf.e8
        · split
          · exact Shf.e8
          · exact hev l2 (by omega) _ _
    · exact Shf.e8
  refine shf_ite (fun _ => ?_) fun _ => ?_
  · split
    · unfold letF
      refine shf_ite (fun _ => ?_) fun _ => ?_
      · exact hev left hl _ _
      · exact ev_then hout hout' hev hl (fun v l => hout' _ _ _) (fun v l h1 => hev l (by omega) _ _)
    · exact Shf.e8
  refine shf_ite (fun _ => ?_) fun _ => ?_
  · split
    · unfold matF
      exact ev_then hout hout' hev hl (fun v l => armF_out hout' v env _ _ l (Nat.le_refl _)) (fun v l h1 => armF_shift hout hout' hev v env _ _ l (Nat.le_refl _) (by omega))
    · exact Shf.e8
  refine shf_ite (fun _ => ?_) fun _ => ?_
  · split
    · exact hev left hl _ _
    · exact Shf.e8
  · exact Shf.e8
end

theorem evalF_shift (lets : List (Str × Tm)) (c : Nat) : ∀ (fuel fuel' left : Nat), left ≤ fuel → left + c ≤ fuel' → ∀ t env, Shf c (evalF lets fuel left t env) (evalF lets fuel' (left + c) t env) := by
  intro fuel
  -- a run that has no step left
  have none : ∀ (fuel' c : Nat) t env, c ≤ fuel' → Shf c (.err 9 0) (evalF lets fuel' (0 + c) t env) := by
    intro fuel' c t env hc
    refine .inr ⟨rfl, rfl, ?_⟩
    rw [Nat.zero_add]
    cases fuel' with
    | zero => exact .inl rfl
    | succ f =>
      cases c with
      | zero => exact .inl rfl
      | succ c =>
        show Low (c + 1) (if fits t then bodyF lets (evalF lets f) c t env else .err 8 c)
        split
        · exact (bodyF_out (evalF_out lets f) lets c t env).low (Nat.lt_succ_self _)
        · exact .inr (Nat.lt_succ_self _)
  induction fuel with
  | zero =>
    intro fuel' left h1 h2 t env
    have : left = 0 := by omega
    subst this
    exact none fuel' c t env (by omega)
  | succ f ih =>
    intro fuel' left h1 h2 t env
    cases left with
    | zero => exact none fuel' c t env (by omega)
    | succ l =>
      obtain ⟨f', rfl⟩ : ∃ q, fuel' = q + 1 := ⟨fuel' - 1, by omega⟩
      have e : l + 1 + c = (l + c) + 1 := by omega
      rw [e]
      show Shf c (if fits t then bodyF lets (evalF lets f) l t env else .err 8 l) (if fits t then bodyF lets (evalF lets f') (l + c) t env else .err 8 (l + c))
      split
      · exact bodyF_shift (evalF_out lets f) (evalF_out lets f') (fun l' hl t env => ih f' l' (by omega) (by omega) t env) lets l (Nat.le_refl _) t env
      · exact Shf.e8

/-- an evaluation with so many steps -/
def evalN (lets : List (Str × Tm)) (left : Nat) (t : Tm) (env : List Fr) : Res := evalF lets left left t env
theorem evalN_shift (lets : List (Str × Tm)) (c left : Nat) (t : Tm) (env : List Fr) : Shf c (evalN lets left t env) (evalN lets (left + c) t env) := evalF_shift lets c _ _ _ (Nat.le_refl _) (Nat.le_refl _) t env
theorem evalN_fuel (lets : List (Str × Tm)) {fuel left : Nat} (h : left ≤ fuel) (t : Tm) (env : List Fr) : evalF lets fuel left t env = evalN lets left t env := by
  have h1 := evalF_shift lets 0 fuel left left h (by omega) t env
  rw [Nat.add_zero] at h1
  unfold evalN
  cases hr : evalF lets fuel left t env with
  | ok v l => rw [hr] at h1; exact h1.symm
  | err e l =>
    rw [hr] at h1
    rcases h1 with ⟨rfl, h2⟩ | ⟨rfl, rfl, h2⟩
    · exact h2.symm
    · cases hq : evalF lets left left t env with
      | ok v l => rw [hq] at h2; exact absurd h2 (Nat.not_lt_zero _)
      | err e l =>
        rw [hq] at h2
        rcases h2 with rfl | h2
        · have := evalF_shift lets 0 left left left (Nat.le_refl _) (by omega) t env
          rw [hq] at this
          rcases this with ⟨h3, _⟩ | ⟨_, rfl, _⟩
          · cases h3
          · rfl
        · exact absurd h2 (Nat.not_lt_zero _)
theorem evalN_err (lets : List (Str × Tm)) {left : Nat} {t : Tm} {env : List Fr} {e : Int} {l : Nat} (h : evalN lets left t env = .err e l) : e = 8 ∨ (e = 9 ∧ l = 0) := by
  have h1 := evalN_shift lets 0 left t env
  rw [h] at h1
  rcases h1 with ⟨h2, _⟩ | ⟨h2, h3, _⟩
  · exact .inl h2
  · exact .inr ⟨h2, h3⟩

/-- an answer that is no limit -/
def NoLim (r : Res) (l : Nat) : Prop := (∃ v, r = .ok v l) ∨ r = .err 8 l
/-- the same answer, with so many steps left -/
def Res.at (r : Res) (k : Nat) : Res := match r with
  | .ok v _ => .ok v k
  | .err e _ => .err e k

/-- with more steps, with as many as were taken, and with fewer -/
theorem evalN_more (lets : List (Str × Tm)) {left l : Nat} {t : Tm} {env : List Fr} (h : NoLim (evalN lets left t env) l) (c : Nat) : evalN lets (left + c) t env = (evalN lets left t env).at (l + c) := by
  have h1 := evalN_shift lets c left t env
  rcases h with ⟨v, h⟩ | h
  · rw [h] at h1 ⊢; exact h1
  · rw [h] at h1 ⊢
    rcases h1 with ⟨_, h2⟩ | ⟨h2, _⟩
    · exact h2
    · cases h2
theorem evalN_same (lets : List (Str × Tm)) {left l : Nat} {t : Tm} {env : List Fr} (h : NoLim (evalN lets left t env) l) : l ≤ left ∧ evalN lets (left - l) t env = (evalN lets left t env).at 0 := by
  have hle : l ≤ left := by
    have := evalF_out lets left left t env
    rcases h with ⟨v, h⟩ | h <;> (unfold evalN at h; rw [h] at this; exact this)
  refine ⟨hle, ?_⟩
  have h1 := evalN_shift lets l (left - l) t env
  rw [show left - l + l = left by omega] at h1
  cases hr : evalN lets (left - l) t env with
  | ok v k =>
    rw [hr] at h1
    rcases h with ⟨v', h⟩ | h
    · rw [h] at h1 ⊢; injection h1 with e1 e2; subst e1; have : k = 0 := by omega
      subst this; rfl
    · rw [h] at h1; cases h1
  | err e k =>
    rw [hr] at h1
    rcases h1 with ⟨rfl, h2⟩ | ⟨rfl, rfl, h2⟩
    · rcases h with ⟨v', h⟩ | h
      · rw [h] at h2; cases h2
      · rw [h] at h2 ⊢; injection h2 with _ e2; have : k = 0 := by omega
        subst this; rfl
    · rcases h with ⟨v', h⟩ | h
      · rw [h] at h2; exact absurd h2 (Nat.lt_irrefl _)
      · rw [h] at h2
        rcases h2 with h2 | h2
        · cases h2
        · exact absurd h2 (Nat.lt_irrefl _)
theorem evalN_few (lets : List (Str × Tm)) {left l : Nat} {t : Tm} {env : List Fr} (h : NoLim (evalN lets left t env) l) {s : Nat} (hs : s + l < left) : evalN lets s t env = .err 9 0 := by
  have h1 := evalN_shift lets (left - s) s t env
  rw [show s + (left - s) = left by omega] at h1
  cases hr : evalN lets s t env with
  | ok v k =>
    rw [hr] at h1
    rcases h with ⟨v', h⟩ | h
    · rw [h] at h1; injection h1 with _ e2; omega
    · rw [h] at h1; cases h1
  | err e k =>
    rw [hr] at h1
    rcases h1 with ⟨rfl, h2⟩ | ⟨rfl, rfl, h2⟩
    · rcases h with ⟨v', h⟩ | h
      · rw [h] at h2; cases h2
      · rw [h] at h2; injection h2 with _ e2; omega
    · rfl
end Go.EV

/-
The call of the law's example answers true.
-/
namespace Go.Proofs.YtaajedkbaahgfaaGreatDoor
open Go Go.AE
noncomputable def locs : List Nat := [0, 0, 1, 170139560867700939598053352751391047680, 11150372266958312624538890910370216650211328, 2016, 562949953420676, 590295775172453433344, 8, 576424468419706816, 56, 8148143878778018081083159906299988461457195067813627367260299259913524433008524322647564288, 992, 216, 33488256, 633510902625665921507764533120, 281442764192768, 140727019356032, 16773088, 515396009472, 24, 143965645770323712, 19806436164503320393745924040, 268300104, 1047548, 66977592, 6, 17451448417639936, 33546752, 140737354137088, 140737487830784, 9005000164374528, 4503597345401856, 8322432, 496, 208, 65248, 536870624, 490496, 562949953355136, 2199023124224, 19333368083630614591281152, 7880, 288230376151707136, 24, 3968, 24, 504, 32624, 56, 1125895610810080, 8384224, 1048288, 16513984, 1032160, 19648582183195004914728165128192, 140187195669216, 142961983992448941760, 268431352, 224, 16773112, 4186048, 1134625626757504768, 120, 268418944, 1888, 16224, 590295810066647875520, 4261395400, 224, 224, 504, 504, 4363682439040, 266338240, 2301304087238143488, 504, 77370071863715408035966976, 130016, 70368743653120, 1099509398784, 120, 1047488, 16709632, 204884588371084311785202453286414108902143165448726393789595648, 2096624, 262112, 224, 982976, 2097144, 65504, 504, 535820096, 257984, 120, 504, 504, 1080863910568918784, 130496, 2, 4675131144692572670648064, 504, 307067158110058216270331136, 7864256, 1048288, 0, 504, 3940649136578048, 151041866288734429771776, 8778845511680, 290535093260750158848, 224, 8778911051648, 524248, 8849820963288626548736, 2016, 2016, 65408, 65408, 16140901063422115584, 73786974027094380544, 122848, 8323040, 2031040, 61280, 4161376, 8125824, 17112628608, 65528, 24, 5237291114413470221964124527562332389312007838629888, 262064, 120, 1117103780003072, 17163058560, 224, 992, 523248, 480, 1970281752820608, 504, 24, 24, 16547776618866959376124215232, 936, 0, 10448029773009037967681152029858612457160704, 166153182560275531675699597790863360, 180496245714399881453103536892025912505393257885405675520, 56, 18014381321090304, 0, 56, 2266735911759287759665152, 130032, 32744, 32752, 184149205606795480238948490449146349755637850570752, 5050176389969560855884357697536, 548648513024, 56, 33537768, 0, 248, 248, 16360, 16360, 0, 0, 0, 0, 0, 0, 0, 0, 0, 0, 0, 0, 0, 0, 0, 0, 0, 0, 0, 0, 0, 0, 0, 0, 0, 0, 0, 0, 0, 2047]
noncomputable def locOfF (f : Nat) : Nat := Option.rec (motive := fun _ => Nat) 0 (fun x => x) (lget locs f)
def isTrue (r : Option CRes) : Bool := match r with
  | some (.ret (.bool true) _ _) => true
  | _ => false
theorem isTrue_some {r : Option CRes} (h : isTrue r = true) : ∃ h' nx', r = some (.ret (.bool true) h' nx') := by
  unfold isTrue at h
  split at h
  · exact ⟨_, _, rfl⟩
  · cases h
set_option maxRecDepth 1000000
theorem alive_run : isTrue (callN Tryz.prog false (specs1 145) locOfF 500 100 6 [] .none 1000) = true := by decide +kernel
theorem prog_mixed : Tryz.prog.follows .mixedOrders = true := by decide +kernel
def namesB (l : List Func) : Bool := l.all fun fn => !(fn.body.isSome && fn.name == "runtime.NumGoroutine")
theorem names_run : namesB Tryz.prog.funcs.toList = true := by decide +kernel
theorem prog_names : NamesOk Tryz.prog := by
  intro f fn hf hb
  have h := names_run
  unfold namesB at h
  rw [List.all_eq_true] at h
  have := h fn (Array.mem_toList_iff.2 (Array.mem_of_getElem? hf))
  rw [hb] at this
  simpa using this
theorem count_ext : ExtOk Tryz.prog 145 Extern.BytealgCount.count := ⟨Tryz.f145, by kernel_rfl, by kernel_rfl, by kernel_rfl, by kernel_rfl, by kernel_rfl⟩
theorem globals_le : Tryz.prog.globals.size ≤ 1000 := by decide +kernel
/-- the example's call answers true, and turns nothing that stood before -/
theorem alive_true (w : World) : Calls Tryz.prog 6 #[] w fun
    | .returned v, w' => v = .bool true ∧ Kept w w'
    | .panicked _, _ => False
    | .outgrown, _ => False := by
  obtain ⟨h', nx', h⟩ := isTrue_some alive_run
  exact closed_call (draw_ok prog_mixed) prog_names (specs1_ok count_ext) (loc := locOfF) (n := 500) (depth := 99) (nx0 := 1000) (f := 6) (fn := Tryz.f6) (by kernel_rfl) rfl globals_le h w
end Go.Proofs.YtaajedkbaahgfaaGreatDoor

/-
Residual of function 24
-/
namespace Go.Proofs.YtaajedkbaahgfaaGreatDoor
open Go Go.AE
set_option maxRecDepth 100000
/-! (touchstone/eval.machine).step -/
noncomputable def C24 : Code := Tryz.f24.body.getD .skip
noncomputable def E24 (n : Nat) (call : CallF) : KX CRes := kEnd Tryz.prog true locOfF n call (mapL (rsVar Tryz.prog 5) Tryz.f24.results.toList)
noncomputable def R24_0 (n : Nat) (call : CallF) : TM → Defs → Heap → Nat → KX CRes → Option CRes := kCode (β := CRes) Tryz.prog 20 5 1047548 C24 n call
noncomputable def R24_1 (n : Nat) (call : CallF) : TM → Defs → Heap → Nat → KX CRes → Option CRes := kCode (β := CRes) Tryz.prog 20 5 1047548 (cL C24) n call
noncomputable def R24_2 (n : Nat) (call : CallF) : TM → Defs → Heap → Nat → KX CRes → Option CRes := kCode (β := CRes) Tryz.prog 20 5 1047548 (cR C24) n call
noncomputable def F24 (n : Nat) (call : CallF) (pb0 po0 : Nat) (h : Heap) (nx : Nat) : Option CRes :=
  R24_0 n call (.fn (tmL tm0 [(0, (.ptr pb0 po0))])) [] h nx (E24 n call)
theorem F24_eq {sp : Specs} (hsp : sp 24 = none) (n : Nat) (call : CallF) (pb0 po0 : Nat) (h : Heap) (nx : Nat) : callS Tryz.prog true sp locOfF n call 24 [(.ptr pb0 po0)] h nx = F24 n call pb0 po0 h nx :=
  (call_eq2 Tryz.func24 (c := C24) (N := 20) (dp := 5) (L := 1047548) (tm := (.fn (tmL tm0 [(0, (.ptr pb0 po0))]))) (by kernel_rfl) (by kernel_rfl) (by kernel_rfl) (by kernel_rfl) (by kernel_rfl) (by kernel_rfl) hsp n call h nx).trans (by kernel_rfl)
theorem R24_0_eq (n : Nat) (call : CallF) (f : Nat → Option AV) (df : Defs) (h : Heap) (nx : Nat) (K : KX CRes) : R24_0 n call (.fn f) df h nx K =
  R24_1 n call (.fn f) df h nx (kThen (R24_2 n call) K) :=
  (congrArg (fun c => kCode (β := CRes) Tryz.prog 20 5 1047548 c n call (.fn f) df h nx K) (show C24 = (.seq (cL C24) (cR C24)) by kernel_rfl)).trans (kCode_seq ..)
theorem R24_1_eq (n : Nat) (call : CallF) (f : Nat → Option AV) (df : Defs) (h : Heap) (nx : Nat) (K : KX CRes) : R24_1 n call (.fn f) df h nx K =
  bd (bd ((f 0)) fun v1 => some v1) fun v2 =>
  bd (bd ((rNilV v2)) fun v3 => some v3) fun v4 =>
  bd (bd ((adr 1 v4)) fun v5 => some v5) fun v6 =>
  bd (bd ((ld1 h v6)) fun v7 => some v7) fun v8 =>
  bd (bd ((f 0)) fun v9 => some v9) fun v10 =>
  bd (bd ((rNilV v10)) fun v11 => some v11) fun v12 =>
  bd (bd ((adr 2 v12)) fun v13 => some v13) fun v14 =>
  bd (bd ((ld1 h v14)) fun v15 => some v15) fun v16 =>
  bd (bd ((binV .eql (eqT Tryz.prog 8 3) false (!(Tryz.prog.eqGuardType Tryz.prog.depth 3)) v16 v8)) fun v17 => some v17) fun v18 =>
  onBool v18 fun b19 => sl b19
  (bd (panR (.iface 54 (.agg [(.int .i64 9)])) h (nx + 9)) (ares (fun v20 h21 n22 =>
  K h21 n22 .normal (.fn (tmL f [(10, v18)])) df) (fun v23 h24 n25 => K h24 n25 (.pan v23) (.fn (tmL f [(10, v18)])) df)))
  (K h (nx + 9) .normal (.fn (tmL f [(10, v18)])) df) := by kernel_rfl
theorem R24_2_eq (n : Nat) (call : CallF) (f : Nat → Option AV) (df : Defs) (h : Heap) (nx : Nat) (K : KX CRes) : R24_2 n call (.fn f) df h nx K =
  bd (f 0) fun v26 =>
  bd (rNilV v26) fun v27 =>
  bd (adr 1 v27) fun v28 =>
  bd (ld1 h v28) fun v29 =>
  bd (binV .add (eqT Tryz.prog 8 3) true (!(Tryz.prog.eqGuardType Tryz.prog.depth 3)) (.int .i64 1) v29) fun v30 =>
  bd (rNilV v26) fun v31 =>
  bd (adr 1 v31) fun v32 =>
  bd (stR 1 h nx v32 v30) (ares (fun v33 h34 n35 =>
  K h34 n35 .normal (.fn f) df) (fun v36 h37 n38 => K h37 n38 (.pan v36) (.fn f) df)) := by kernel_rfl
theorem E24_normal (n : Nat) (call : CallF) (f : Nat → Option AV) (h : Heap) (nx : Nat) : E24 n call h nx .normal (.fn f) [] = some (.ret (.tuple []) h nx) := by kernel_rfl
theorem E24_ret (n : Nat) (call : CallF) (f : Nat → Option AV) (h : Heap) (nx : Nat) : E24 n call h nx .ret (.fn f) [] = some (.ret (.tuple []) h nx) := by kernel_rfl
theorem E24_pan (n : Nat) (call : CallF) (v : AV) (tm : TM) (h : Heap) (nx : Nat) : E24 n call h nx (.pan v) tm [] = some (.pan v h nx) := by kernel_rfl
end Go.Proofs.YtaajedkbaahgfaaGreatDoor
