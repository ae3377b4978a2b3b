/-
Texts of the proof, joined: Ev22, Ev23, R5, Ev24, Ev25, Ev26, R8, R3.
-/
import Derived.Test.YtaajedkbaahgfaaGreatDoorA11
import Derived.Test.YtaajedkbaahgfaaGreatDoorProg
set_option linter.unusedSimpArgs false
set_option linter.unusedVariables false
set_option linter.unusedSectionVars false
/-
What the functions of the law answer: W.Few: aliases, lets, exports.
-/
namespace Go.Proofs.YtaajedkbaahgfaaGreatDoor
open Go Go.AE Go.EV
set_option maxRecDepth 100000
set_option maxHeartbeats 2000000
theorem sub_take {cs : List AV} {a : Nat} : (((cs.drop a).take 7).drop 2).take 5 = (cs.drop (a + 2)).take 5 := by
  rw [List.drop_take, List.drop_drop, List.take_take]; rfl
theorem row1 {B : Nat} {σ : Sto} {t : Tm} {l : List AV} (h : RdTB B σ t l) (id : Nat) : rowR id zt 1 5 [(0, 5, .agg l)] = some (.slice id 0 1 (some 1) 5, .cells l) := by
  obtain ⟨ks, rfl, _⟩ := rdt_inv h; rfl
theorem row2 {B : Nat} {σ : Sto} {t u : Tm} {l m : List AV} (h : RdTB B σ t l) (h' : RdTB B σ u m) (id : Nat) : rowR id zt 2 5 [(0, 5, .agg l), (5, 5, .agg m)] = some (.slice id 0 2 (some 2) 5, .cells (l ++ m)) := by
  obtain ⟨ks, rfl, _⟩ := rdt_inv h; obtain ⟨ks', rfl, _⟩ := rdt_inv h'; rfl
theorem rdt_len5 {B : Nat} {σ : Sto} {t : Tm} {l : List AV} (h : RdTB B σ t l) : l.length = 5 := by obtain ⟨ks, hl, _⟩ := rdt_inv h; rw [hl]; rfl
theorem allOne_app : ∀ {l m : List AV}, allOne l = true → allOne m = true → allOne (l ++ m) = true := by
  intro l
  induction l with
  | nil => intro m _ h; exact h
  | cons a l ih =>
    intro m h1 h2
    change andB (oneCell a) (allOne l) = true at h1
    show andB (oneCell a) (allOne (l ++ m)) = true
    cases ha : oneCell a with
    | false => rw [ha] at h1; cases h1
    | true => rw [ha] at h1; exact ih h1 h2

theorem aparams_loop {w : W0} (Q : Bool → Prop) (need : List Tm) (K : Nat → Nat → KX CRes) {i : Nat} {x : Als} {xs : List Als} (hx : w.M.aliases.drop i = x :: xs) : ∀ (c k u : Nat) (h : Heap) (nx : Nat) (σ : Sto) (j : Nat) (f : Nat → Option AV),
    c + k = 60 → u + c ≤ 100000 → WS w need u h nx σ f → f 9 = some (.int .i64 (i : Int)) → f 10 = some (.int .i64 (k : Int)) →
    (∀ u' h nx σ f', u' ≤ u + c → WS w need u' h nx σ f' → f' 174 = f 174 → f' 175 = f 175 → WA w Q fun n d => K n d h nx .normal (.fn f') []) →
    WA w Q fun n d => kLoop (R11_76 n (CN n d)) (n - j) (.fn f) [] h nx (kLeave 10 (K n d)) := by
  intro c
  induction c with
  | zero =>
    intro k u h nx σ j f hck hu s f6 f8 hk
    have hgm := mod_ld s
    obtain ⟨v, hv, hrow⟩ := s.rd.aliases
    obtain ⟨b, o, cs, hix, hb, ⟨_, ⟨pv, hpv, hpr⟩, _⟩, _, _⟩ := hrow.at hx
    have hgb := s.L.mem.sat _ _ hb
    have c1 : cs[o + i * 7 + 1]? = some pv := (cell_take (n := 7) rfl (by omega)).trans hpv
    have hlen := hpr.len
    have e60 : ltI (k : Int) 60 = false := nlt_lit k 60 (by omega)
    refine (hk u h nx σ (tmL f [(219, .bool false)]) (by omega) (s.same (Nat.le_refl _) (Nat.le_refl _) rfl rfl rfl) rfl rfl).map fun c hc => ?_
    refine Ev.round (B := fun n d => R11_76 n (CN n d)) (tm := fun _ _ => .fn f) (K := fun n d => kLeave 10 (K n d)) ?_
    by_cases h1 : k < x.params.length
    · have e1 := lt_lit _ _ h1
      repeat (first | simp -eta only [SY, ↓reduceIte, Nat.reduceEqDiff, Nat.reduceAdd, f6, f8, s.f1, r_loadB _ _ hgm, hv, hix, r_loadB _ _ hgb, c1, hlen, e1, e60] | simp -eta only [KY, ↓reduceIte, Nat.reduceEqDiff, R11_76_eq])
      exact hc
    · have e1 := nlt_lit _ _ h1
      repeat (first | simp -eta only [SY, ↓reduceIte, Nat.reduceEqDiff, Nat.reduceAdd, f6, f8, s.f1, r_loadB _ _ hgm, hv, hix, r_loadB _ _ hgb, c1, hlen, e1] | simp -eta only [KY, ↓reduceIte, Nat.reduceEqDiff, R11_76_eq])
      exact hc
  | succ c ih =>
    intro k u h nx σ j f hck hu s f6 f8 hk
    have hgm := mod_ld s
    obtain ⟨v, hv, hrow⟩ := s.rd.aliases
    obtain ⟨b, o, cs, hix, hb, ⟨_, ⟨pv, hpv, hpr⟩, _⟩, _, _⟩ := hrow.at hx
    have hgb := s.L.mem.sat _ _ hb
    have c1 : cs[o + i * 7 + 1]? = some pv := (cell_take (n := 7) rfl (by omega)).trans hpv
    have hlen := hpr.len
    have e60 : ltI (k : Int) 60 = true := lt_lit k 60 (by omega)
    by_cases h1 : k < x.params.length
    · have e1 := lt_lit _ _ h1
      obtain ⟨q, qs, hq⟩ := drop_some h1
      obtain ⟨b2, o2, cs2, hix2, hb2, hn2, _, _⟩ := hpr.at hq
      have hgb2 := s.L.mem.sat _ _ hb2
      have d0 : cs2[o2 + k * 1]? = some (.str q.1 q.2) := by
        rw [← Nat.add_zero (o2 + k * 1)]; exact (cell_take (n := 1) rfl (by omega)).trans hn2
      obtain ⟨nn, f4, hnn⟩ := s.num
      have hsm := num_small hnn (by omega)
      have m1 : sl (ltI 5000 (Int.ofNat q.1)) 5000 (Int.ofNat q.1) = ((min q.1 5000 : Nat) : Int) := min_sl q.1 5000
      have a1 := add_nat (a := nn) (b := min q.1 5000) (by omega)
      have hinc : wrapF .i64 (addI (k : Int) 1) = ((k + 1 : Nat) : Int) := add_nat (b := 1) (by omega)
      have hS := s.count (nx' := nx) (f' := tmL f [(10, .int .i64 ((k + 1 : Nat) : Int)), (4, .int .i64 ((nn + min q.1 5000 : Nat) : Int)), (219, .bool true)]) (Nat.le_refl _) rfl rfl (n := nn + min q.1 5000) rfl (num_le hnn (by omega))
      refine (ih (k + 1) (u + 1) h nx σ (j + 1) _ (by omega) (by omega) hS f6 rfl (fun u' h nx σ f' h1 h2 h4 h5 => hk u' h nx σ f' (by omega) h2 h4 h5)).map fun c hc => ?_
      refine Ev.round (B := fun n d => R11_76 n (CN n d)) (tm := fun _ _ => .fn f) (K := fun n d => kLeave 10 (K n d)) ?_
      repeat (first | simp -eta only [SY, ↓reduceIte, Nat.reduceEqDiff, Nat.reduceAdd, f4, f6, f8, s.f1, r_loadB _ _ hgm, hv, hix, r_loadB _ _ hgb, c1, hlen, e1, e60, hix2, r_loadB _ _ hgb2, d0, m1, a1, hinc] | simp -eta only [KY, ↓reduceIte, Nat.reduceEqDiff, R11_76_eq])
      exact hc
    · have e1 := nlt_lit _ _ h1
      refine (hk u h nx σ (tmL f [(219, .bool false)]) (by omega) (s.same (Nat.le_refl _) (Nat.le_refl _) rfl rfl rfl) rfl rfl).map fun c hc => ?_
      refine Ev.round (B := fun n d => R11_76 n (CN n d)) (tm := fun _ _ => .fn f) (K := fun n d => kLeave 10 (K n d)) ?_
      repeat (first | simp -eta only [SY, ↓reduceIte, Nat.reduceEqDiff, Nat.reduceAdd, f6, f8, s.f1, r_loadB _ _ hgm, hv, hix, r_loadB _ _ hgb, c1, hlen, e1] | simp -eta only [KY, ↓reduceIte, Nat.reduceEqDiff, R11_76_eq])
      exact hc

theorem aliases_loop {w : W0} (hB : w.B ≤ 9223372036854775808) (hm0 : Mem w.h0 w.nx0 w.m w.σ0) (Q : Bool → Prop) (need : List Tm) (K : Nat → Nat → KX CRes) : ∀ (xs : List Als) (i u : Nat) (h : Heap) (nx : Nat) (σ : Sto) (j : Nat) (f : Nat → Option AV),
    w.M.aliases.drop i = xs → u + 62 * xs.length ≤ 100000 → WS w need u h nx σ f → f 174 = some (.int .i64 (w.M.aliases.length : Int)) → f 175 = some (.int .i64 (i : Int)) →
    (∀ u' h nx σ f, u' ≤ u + 62 * xs.length → WS w need u' h nx σ f → WA w Q fun n d => K n d h nx .normal (.fn f) []) →
    WA w Q fun n d => kLoop (R11_34 n (CN n d)) (n - j) (.fn f) [] h nx (kLeave 8 (K n d)) := by
  intro xs
  induction xs with
  | nil =>
    intro i u h nx σ j f hxs hu s f70 f71 hk
    have hge : ¬ i < w.M.aliases.length := by have := congrArg List.length hxs; simp at this; omega
    have e1 := nlt_lit _ _ hge
    refine (hk u h nx σ (tmL f [(176, .bool false)]) (by omega) (s.same (Nat.le_refl _) (Nat.le_refl _) rfl rfl rfl)).map fun c hc => ?_
    refine Ev.round (B := fun n d => R11_34 n (CN n d)) (tm := fun _ _ => .fn f) (K := fun n d => kLeave 8 (K n d)) ?_
    repeat (first | simp -eta only [SY, ↓reduceIte, Nat.reduceEqDiff, Nat.reduceAdd, f70, f71, e1] | simp -eta only [KY, ↓reduceIte, Nat.reduceEqDiff, R11_34_eq, R11_40_eq, R11_41_eq, R11_46_eq])
    exact hc
  | cons x xs ih =>
    intro i u h nx σ j f hxs hu s f70 f71 hk
    have hi := drop_lt hxs
    have e1 := lt_lit _ _ hi
    have hl : (x :: xs).length = xs.length + 1 := rfl
    obtain ⟨nn, f4, hnn⟩ := s.num
    have hsm := num_small hnn (by omega)
    have hgm := mod_ld s
    obtain ⟨v, hv, hrow⟩ := s.rd.aliases
    obtain ⟨b, o, cs, hix, hb, ⟨hx0, ⟨pv, hpv, hpr⟩, hty⟩, _, hbig⟩ := hrow.at hxs
    rw [sub_take] at hty
    have hgb := s.L.mem.sat _ _ hb
    have c0 : cs[o + i * 7]? = some (.str x.name.1 x.name.2) := by
      rw [← Nat.add_zero (o + i * 7)]; exact (cell_take (n := 7) rfl (by omega)).trans hx0
    have c1 : cs[o + i * 7 + 1]? = some pv := (cell_take (n := 7) rfl (by omega)).trans hpv
    have hlp := hpr.len
    have m1 : sl (ltI 5000 (Int.ofNat x.name.1)) 5000 (Int.ofNat x.name.1) = ((min x.name.1 5000 : Nat) : Int) := min_sl x.name.1 5000
    have m2 : sl (ltI 5000 (x.params.length : Int)) 5000 (x.params.length : Int) = ((min x.params.length 5000 : Nat) : Int) := min_sl x.params.length 5000
    have p2 := mul20 (a := min x.params.length 5000) (by omega)
    have a1 := add_nat (a := nn) (b := min x.name.1 5000) (by omega)
    have a2 := add_nat (a := nn + min x.name.1 5000) (b := 20 * min x.params.length 5000) (by omega)
    have hinc := inc_small hi (by omega)
    have hrun5 : (pkAgg 5).run cs (o + i * 7 + 2) = some (.agg ((cs.drop (o + i * 7 + 2)).take 5)) := pkAgg_run rfl (rdt_len5 hty)
    have hS := s.count (nx' := nx + 21) (f' := tmL (tmL (tmL f [(176, .bool true)]) [(9, .int .i64 (i : Int))]) [(4, .int .i64 ((nn + min x.name.1 5000 + 20 * min x.params.length 5000 : Nat) : Int))]) (by omega) rfl rfl (n := nn + min x.name.1 5000 + 20 * min x.params.length 5000) rfl (by rw [Nat.add_assoc]; exact num_le hnn (by omega))
    obtain ⟨out, out', h', f3, happ, hws⟩ := hS.push hm0 (nx' := nx + 21 + 1) (id1 := nx + 21) (id2 := nx + 21 + 1) (rds_one hty).1 (rds_one hty).2 (rdt_one hty) (by simp) (by simp) (by omega) (by omega) (by omega) (by omega)
    have happ : appV 5 (hset h (nx + 21) (.cells ((cs.drop (o + i * 7 + 2)).take 5))) (nx + 21 + 1) (nx + 21 + 1) out (.slice (nx + 21) 0 1 (some 1) 5) = some (.val out' h' (nx + 21 + 1 + 1)) := happ
    have f3' : f 3 = some out := f3
    have hrow1 := row1 hty (nx + 21)
    have hS2 := (hws (tmL (tmL (tmL (tmL (tmL f [(176, .bool true)]) [(9, .int .i64 (i : Int))]) [(4, .int .i64 ((nn + min x.name.1 5000 + 20 * min x.params.length 5000 : Nat) : Int))]) [(3, out')]) [(10, .int .i64 0)]) (nn + min x.name.1 5000 + 20 * min x.params.length 5000) rfl rfl rfl (by rw [Nat.add_assoc]; exact Nat.le_trans (num_le hnn (by omega)) (Nat.mul_le_mul_right _ (Nat.le_succ _)))).less (need' := need) (fun t ht => List.mem_append_left _ ht)
    have hP := aparams_loop Q need (fun n d => kLeave 9 (kThen (R11_51 n (CN n d)) (kThen (kLoop (R11_34 n (CN n d)) (n - (j + 1))) (kLeave 8 (K n d))))) hxs 60 0 (u + 1 + 1) h' (nx + 21 + 1 + 1) σ 0 _ rfl (by omega) hS2 rfl rfl ?_
    · refine hP.map fun c hc => ?_
      refine Ev.round (B := fun n d => R11_34 n (CN n d)) (tm := fun _ _ => .fn f) (K := fun n d => kLeave 8 (K n d)) ?_
      repeat (first | simp -eta only [SY, ↓reduceIte, Nat.reduceEqDiff, Nat.reduceAdd, f3', f70, f71, f4, e1, s.f1, r_loadB _ _ hgm, hv, hix, r_loadB _ _ hgb, c0, c1, onS, hlp, m1, m2, p2, a1, a2, hrun5, hrow1, happ] | simp -eta only [KY, ↓reduceIte, Nat.reduceEqDiff, R11_34_eq, R11_40_eq, R11_41_eq, R11_46_eq, R11_47_eq, R11_50_eq, R11_54_eq, R11_57_eq, R11_58_eq, R11_61_eq, R11_62_eq, R11_67_eq, R11_68_eq, R11_71_eq, R11_72_eq, R11_75_eq])
      exact Ev.loop (B := fun n d => R11_76 n (CN n d)) (tm := fun _ _ => .fn _) hc
    · intro u1 h1 nx1 σ1 f1 hu1 s1 g70 g71
      have q70' : f1 174 = some (.int .i64 (w.M.aliases.length : Int)) := g70.trans f70
      have q71' : f1 175 = some (.int .i64 (i : Int)) := g71.trans f71
      refine (ih (i + 1) u1 h1 nx1 σ1 (j + 1) (tmL f1 [(175, .int .i64 ((i + 1 : Nat) : Int))]) (drop_tail hxs) (by omega) (s1.same (Nat.le_refl _) (Nat.le_refl _) rfl rfl rfl) q70' rfl (fun u' h nx σ f h1 h2 => hk u' h nx σ f (by omega) h2)).map fun c hc => ?_
      repeat (first | simp -eta only [SY, ↓reduceIte, Nat.reduceEqDiff, Nat.reduceAdd, q71', hinc] | simp -eta only [KY, ↓reduceIte, Nat.reduceEqDiff, R11_51_eq])
      exact hc

def annT (l : List Tm) : Tm := .mk 0 (0, 0) (0, 0) 0 l
theorem lets_loop {w : W0} (hB : w.B ≤ 9223372036854775808) (hm0 : Mem w.h0 w.nx0 w.m w.σ0) (Q : Bool → Prop) (K : Nat → Nat → KX CRes) : ∀ (xs : List LetD) (i u : Nat) (need : List Tm) (h : Heap) (nx : Nat) (σ : Sto) (j : Nat) (f : Nat → Option AV),
    w.M.lets.drop i = xs → u + xs.length ≤ 100000 → WS w need u h nx σ f → f 238 = some (.int .i64 (w.M.lets.length : Int)) → f 239 = some (.int .i64 (i : Int)) →
    (∀ u' h nx σ f, u' ≤ u + xs.length → WS w (need ++ xs.map LetD.body) u' h nx σ f → WA w Q fun n d => K n d h nx .normal (.fn f) []) →
    WA w Q fun n d => kLoop (R11_42 n (CN n d)) (n - j) (.fn f) [] h nx (kLeave 12 (K n d)) := by
  intro xs
  induction xs with
  | nil =>
    intro i u need h nx σ j f hxs hu s f70 f71 hk
    have hge : ¬ i < w.M.lets.length := by have := congrArg List.length hxs; simp at this; omega
    have e1 := nlt_lit _ _ hge
    refine (hk u h nx σ (tmL f [(240, .bool false)]) (by omega) (by simpa using s.same (f' := tmL f [(240, .bool false)]) (Nat.le_refl _) (Nat.le_refl _) rfl rfl rfl)).map fun c hc => ?_
    refine Ev.round (B := fun n d => R11_42 n (CN n d)) (tm := fun _ _ => .fn f) (K := fun n d => kLeave 12 (K n d)) ?_
    repeat (first | simp -eta only [SY, ↓reduceIte, Nat.reduceEqDiff, Nat.reduceAdd, f70, f71, e1] | simp -eta only [KY, ↓reduceIte, Nat.reduceEqDiff, R11_42_eq])
    exact hc
  | cons x xs ih =>
    intro i u need h nx σ j f hxs hu s f70 f71 hk
    have hi := drop_lt hxs
    have e1 := lt_lit _ _ hi
    have hl : (x :: xs).length = xs.length + 1 := rfl
    obtain ⟨nn, f4, hnn⟩ := s.num
    have hsm := num_small hnn (by omega)
    have hgm := mod_ld s
    obtain ⟨v, hv, hrow⟩ := s.rd.lets
    obtain ⟨b, o, cs, hix, hb, ⟨hx0, ⟨av, hav, har⟩, hty⟩, _, hbig⟩ := hrow.at hxs
    rw [sub_take] at hty
    have hgb := s.L.mem.sat _ _ hb
    have c0 : cs[o + i * 7]? = some (.str x.name.1 x.name.2) := by
      rw [← Nat.add_zero (o + i * 7)]; exact (cell_take (n := 7) rfl (by omega)).trans hx0
    have c1 : cs[o + i * 7 + 1]? = some av := (cell_take (n := 7) rfl (by omega)).trans hav
    have m1 : sl (ltI 5000 (Int.ofNat x.name.1)) 5000 (Int.ofNat x.name.1) = ((min x.name.1 5000 : Nat) : Int) := min_sl x.name.1 5000
    have a1 := add_nat (a := nn) (b := min x.name.1 5000) (by omega)
    have hinc := inc_small hi (by omega)
    have hrun5 : (pkAgg 5).run cs (o + i * 7 + 2) = some (.agg ((cs.drop (o + i * 7 + 2)).take 5)) := pkAgg_run rfl (rdt_len5 hty)
    have hT : RdTB w.B σ (annT x.ann) [.int .i64 0, .str 0 0, .str 0 0, .int .i64 0, av] := .mk 0 (0, 0) (0, 0) 0 x.ann av har
    have hbld := (kid_row (name := (0, 0)) har).2
    obtain ⟨out, out', h', f3, happ, hws⟩ := s.push hm0 (nx' := nx + 17) (id1 := nx + 14) (id2 := nx + 15) (rds_two hty hT).1 (rds_two hty hT).2 (allOne_app (rdt_one hty) (rdt_one hT)) (by simp) (by simp) (by omega) (by omega) (by omega) (by omega)
    have happ : appV 5 (hset h (nx + 14) (.cells ((cs.drop (o + i * 7 + 2)).take 5 ++ [.int .i64 0, .str 0 0, .str 0 0, .int .i64 0, av]))) (nx + 15) (nx + 17) out (.slice (nx + 14) 0 2 (some 2) 5) = some (.val out' h' (nx + 17 + 1)) := happ
    have hrow1 := row2 hty hT (nx + 14)
    have hS2 := (hws (tmL f [(239, .int .i64 ((i + 1 : Nat) : Int)), (3, out'), (4, .int .i64 ((nn + min x.name.1 5000 : Nat) : Int)), (11, .int .i64 (i : Int)), (240, .bool true)]) (nn + min x.name.1 5000) rfl rfl rfl (num_le hnn (by omega))).less (need' := need ++ [x.body]) (fun t ht => by simp at ht ⊢; rcases ht with h | h; exact .inl h; exact .inr (.inl h))
    refine (ih (i + 1) (u + 1) _ h' (nx + 17 + 1) σ (j + 1) _ (drop_tail hxs) (by omega) hS2 f70 rfl (fun u' h nx σ f h1 h2 => hk u' h nx σ f (by omega) (by simpa using h2))).map fun c hc => ?_
    refine Ev.round (B := fun n d => R11_42 n (CN n d)) (tm := fun _ _ => .fn f) (K := fun n d => kLeave 12 (K n d)) ?_
    repeat (first | simp -eta only [SY, ↓reduceIte, Nat.reduceEqDiff, Nat.reduceAdd, f3, f70, f71, f4, e1, s.f1, r_loadB _ _ hgm, hv, hix, r_loadB _ _ hgb, c0, c1, onS, m1, a1, hrun5, hbld, hrow1, happ, hinc] | simp -eta only [KY, ↓reduceIte, Nat.reduceEqDiff, R11_42_eq])
    exact hc

theorem exports_loop {w : W0} (hB : w.B ≤ 9223372036854775808) (hm0 : Mem w.h0 w.nx0 w.m w.σ0) (Q : Bool → Prop) (need : List Tm) (K : Nat → Nat → KX CRes) : ∀ (xs : List Exp) (i u : Nat) (h : Heap) (nx : Nat) (σ : Sto) (j : Nat) (f : Nat → Option AV),
    w.M.exports.drop i = xs → u + xs.length ≤ 100000 → WS w need u h nx σ f → f 271 = some (.int .i64 (w.M.exports.length : Int)) → f 272 = some (.int .i64 (i : Int)) →
    (∀ u' h nx σ f, u' ≤ u + xs.length → WS w need u' h nx σ f → WA w Q fun n d => K n d h nx .normal (.fn f) []) →
    WA w Q fun n d => kLoop (R11_48 n (CN n d)) (n - j) (.fn f) [] h nx (kLeave 14 (K n d)) := by
  intro xs
  induction xs with
  | nil =>
    intro i u h nx σ j f hxs hu s f70 f71 hk
    have hge : ¬ i < w.M.exports.length := by have := congrArg List.length hxs; simp at this; omega
    have e1 := nlt_lit _ _ hge
    refine (hk u h nx σ (tmL f [(273, .bool false)]) (by omega) (s.same (Nat.le_refl _) (Nat.le_refl _) rfl rfl rfl)).map fun c hc => ?_
    refine Ev.round (B := fun n d => R11_48 n (CN n d)) (tm := fun _ _ => .fn f) (K := fun n d => kLeave 14 (K n d)) ?_
    repeat (first | simp -eta only [SY, ↓reduceIte, Nat.reduceEqDiff, Nat.reduceAdd, f70, f71, e1] | simp -eta only [KY, ↓reduceIte, Nat.reduceEqDiff, R11_48_eq])
    exact hc
  | cons x xs ih =>
    intro i u h nx σ j f hxs hu s f70 f71 hk
    have hi := drop_lt hxs
    have e1 := lt_lit _ _ hi
    have hl : (x :: xs).length = xs.length + 1 := rfl
    obtain ⟨nn, f4, hnn⟩ := s.num
    have hsm := num_small hnn (by omega)
    have hgm := mod_ld s
    obtain ⟨v, hv, hrow⟩ := s.rd.exports
    obtain ⟨b, o, cs, hix, hb, ⟨hx0, av, hav, har⟩, _, hbig⟩ := hrow.at hxs
    have hgb := s.L.mem.sat _ _ hb
    have c0 : cs[o + i * 3 + 1]? = some (.str x.name.1 x.name.2) := (cell_take (n := 3) rfl (by omega)).trans hx0
    have c1 : cs[o + i * 3 + 2]? = some av := (cell_take (n := 3) rfl (by omega)).trans hav
    have m1 : sl (ltI 5000 (Int.ofNat x.name.1)) 5000 (Int.ofNat x.name.1) = ((min x.name.1 5000 : Nat) : Int) := min_sl x.name.1 5000
    have a1 := add_nat (a := nn) (b := min x.name.1 5000) (by omega)
    have hinc := inc_small hi (by omega)
    have hT : RdTB w.B σ (annT x.ann) [.int .i64 0, .str 0 0, .str 0 0, .int .i64 0, av] := .mk 0 (0, 0) (0, 0) 0 x.ann av har
    have hbld := (kid_row (name := (0, 0)) har).2
    obtain ⟨out, out', h', f3, happ, hws⟩ := s.push hm0 (nx' := nx + 1) (id1 := nx) (id2 := nx + 1) (rds_one hT).1 (rds_one hT).2 (rdt_one hT) (by simp) (by simp) (by omega) (by omega) (by omega) (by omega)
    have happ : appV 5 (hset h nx (.cells [.int .i64 0, .str 0 0, .str 0 0, .int .i64 0, av])) (nx + 1) (nx + 1) out (.slice nx 0 1 (some 1) 5) = some (.val out' h' (nx + 1 + 1)) := happ
    have hrow1 := row1 hT nx
    have hS2 := (hws (tmL f [(272, .int .i64 ((i + 1 : Nat) : Int)), (3, out'), (4, .int .i64 ((nn + min x.name.1 5000 : Nat) : Int)), (12, .int .i64 (i : Int)), (273, .bool true)]) (nn + min x.name.1 5000) rfl rfl rfl (num_le hnn (by omega))).less (need' := need) (fun t ht => List.mem_append_left _ ht)
    refine (ih (i + 1) (u + 1) h' (nx + 1 + 1) σ (j + 1) _ (drop_tail hxs) (by omega) hS2 f70 rfl (fun u' h nx σ f h1 h2 => hk u' h nx σ f (by omega) h2)).map fun c hc => ?_
    refine Ev.round (B := fun n d => R11_48 n (CN n d)) (tm := fun _ _ => .fn f) (K := fun n d => kLeave 14 (K n d)) ?_
    repeat (first | simp -eta only [SY, ↓reduceIte, Nat.reduceEqDiff, Nat.reduceAdd, f3, f70, f71, f4, e1, s.f1, r_loadB _ _ hgm, hv, hix, r_loadB _ _ hgb, c0, c1, onS, m1, a1, hbld, hrow1, happ, hinc] | simp -eta only [KY, ↓reduceIte, Nat.reduceEqDiff, R11_48_eq])
    exact hc
end Go.Proofs.YtaajedkbaahgfaaGreatDoor

/-
What the functions of the law answer: W.Few.
-/
namespace Go.Proofs.YtaajedkbaahgfaaGreatDoor
open Go Go.AE Go.EV
set_option maxRecDepth 100000
set_option maxHeartbeats 2000000
theorem wfew_ok {B : Nat} (hB : B ≤ 9223372036854775808) (hB2 : 1000000 ≤ B) (M : Md) {h : Heap} {nx m : Nat} {σ : Sto} {l : List AV} (hm : Mem h nx m σ) (hr : RdMd B σ M l) :
    ∃ h' nx' σ' b, Later h nx m σ h' nx' σ' ∧ Rn 11 [.agg l] h nx (.ret (.bool b) h' nx') ∧ (b = true → (∀ x ∈ M.lets, wF x.body 0 ≤ 600) ∧ M.lets.length ≤ 60) := by
  have hb1 : boxR nx (.agg l) = some (.ptr nx 0, .cells l) := by
    show gd (Nat.blt 0 (llen l)) _ = _
    rw [llen_eq, hr.len]; rfl
  have L1 := hm.make (id := nx) (nx' := nx + 1) (.cells l) (Nat.le_refl _) (Nat.lt_succ_self _)
  have hm1 := L1.mem
  have hr1 := hr.mono L1.sle
  have hgm := hm1.sat _ _ (sput_self _ _ _)
  obtain ⟨v0, hv0, hr0⟩ := hr1.imports
  obtain ⟨v1, hv1, hr1'⟩ := hr1.types
  obtain ⟨v2, hv2, hr2⟩ := hr1.aliases
  obtain ⟨v3, hv3, hr3⟩ := hr1.lets
  obtain ⟨v4, hv4, hr4⟩ := hr1.exports
  have q0 := hr0.len
  have q1 := hr1'.len
  have q2 := hr2.len
  have q3 := hr3.len
  have q4 := hr4.len
  have key : ∀ (Q : Bool → Prop), WA ⟨B, hset h nx (.cells l), nx + 1, m, sput σ nx (.cells l), nx, M, l⟩ Q (fun n d => F11 n (CN n d) (.agg l) h nx) → ∃ h' nx' σ' b, Later h nx m σ h' nx' σ' ∧ Rn 11 [.agg l] h nx (.ret (.bool b) h' nx') ∧ Q b := by
    intro Q ⟨h', nx', σ', b, L, e, q⟩
    exact ⟨h', nx', σ', b, L1.trans L, Rn.of (f := 11) (l := [.agg l]) (g := fun n d => F11 n (CN n d) (.agg l) h nx) (fun n d => F11_eq sp11 n (CN n d) (.agg l) h nx) e, q⟩
  refine key _ ?_
  by_cases hbig : 30 < M.imports.length ∨ 30 < M.types.length ∨ 30 < M.aliases.length ∨ 60 < M.lets.length ∨ 60 < M.exports.length
  · refine ⟨_, _, _, false, Later.refl hm1, Ev.pure fun n d => ?_, fun h => by cases h⟩
    show F11 n (CN n d) (.agg l) h nx = _
    unfold F11
    by_cases b0 : 30 < M.imports.length
    · have e0 : ltI 30 (M.imports.length : Int) = true := lt_lit 30 _ b0
      repeat (first | simp -eta only [SY, ↓reduceIte, Nat.reduceEqDiff, Nat.reduceAdd, hb1, r_loadB _ _ hgm, hv0, q0, e0] | simp -eta only [KY, ↓reduceIte, Nat.reduceEqDiff, R11_0_eq, R11_1_eq, R11_2_eq, R11_3_eq, E11_ret])
    have e0 : ltI 30 (M.imports.length : Int) = false := nlt_lit 30 _ b0
    by_cases b1 : 30 < M.types.length
    · have e1 : ltI 30 (M.types.length : Int) = true := lt_lit 30 _ b1
      repeat (first | simp -eta only [SY, ↓reduceIte, Nat.reduceEqDiff, Nat.reduceAdd, hb1, r_loadB _ _ hgm, hv0, q0, e0, hv1, q1, e1] | simp -eta only [KY, ↓reduceIte, Nat.reduceEqDiff, R11_0_eq, R11_1_eq, R11_2_eq, R11_3_eq, E11_ret])
    have e1 : ltI 30 (M.types.length : Int) = false := nlt_lit 30 _ b1
    by_cases b2 : 30 < M.aliases.length
    · have e2 : ltI 30 (M.aliases.length : Int) = true := lt_lit 30 _ b2
      repeat (first | simp -eta only [SY, ↓reduceIte, Nat.reduceEqDiff, Nat.reduceAdd, hb1, r_loadB _ _ hgm, hv0, q0, e0, hv1, q1, e1, hv2, q2, e2] | simp -eta only [KY, ↓reduceIte, Nat.reduceEqDiff, R11_0_eq, R11_1_eq, R11_2_eq, R11_3_eq, E11_ret])
    have e2 : ltI 30 (M.aliases.length : Int) = false := nlt_lit 30 _ b2
    by_cases b3 : 60 < M.lets.length
    · have e3 : ltI 60 (M.lets.length : Int) = true := lt_lit 60 _ b3
      repeat (first | simp -eta only [SY, ↓reduceIte, Nat.reduceEqDiff, Nat.reduceAdd, hb1, r_loadB _ _ hgm, hv0, q0, e0, hv1, q1, e1, hv2, q2, e2, hv3, q3, e3] | simp -eta only [KY, ↓reduceIte, Nat.reduceEqDiff, R11_0_eq, R11_1_eq, R11_2_eq, R11_3_eq, E11_ret])
    have e3 : ltI 60 (M.lets.length : Int) = false := nlt_lit 60 _ b3
    have e4 : ltI 60 (M.exports.length : Int) = true := lt_lit 60 _ (by omega)
    repeat (first | simp -eta only [SY, ↓reduceIte, Nat.reduceEqDiff, Nat.reduceAdd, hb1, r_loadB _ _ hgm, hv0, q0, e0, hv1, q1, e1, hv2, q2, e2, hv3, q3, e3, hv4, q4, e4] | simp -eta only [KY, ↓reduceIte, Nat.reduceEqDiff, R11_0_eq, R11_1_eq, R11_2_eq, R11_3_eq, E11_ret])
  have e0 : ltI 30 (M.imports.length : Int) = false := nlt_lit 30 _ (by omega)
  have e1 : ltI 30 (M.types.length : Int) = false := nlt_lit 30 _ (by omega)
  have e2 : ltI 30 (M.aliases.length : Int) = false := nlt_lit 30 _ (by omega)
  have e3 : ltI 60 (M.lets.length : Int) = false := nlt_lit 60 _ (by omega)
  have e4 : ltI 60 (M.exports.length : Int) = false := nlt_lit 60 _ (by omega)
  generalize hw : W0.mk B (hset h nx (.cells l)) (nx + 1) m (sput σ nx (.cells l)) nx M l = w
  have hwB : w.B ≤ 9223372036854775808 := by rw [← hw]; exact hB
  have hwm : Mem w.h0 w.nx0 w.m w.σ0 := by rw [← hw]; exact hm1
  have hwM : w.M = M := by rw [← hw]
  have k4 := fun (need : List Tm) Q K => exports_loop hwB hwm Q need K w.M.exports 0
  have k3 := fun Q K => lets_loop hwB hwm Q K w.M.lets 0
  have k2 := fun (need : List Tm) Q K => aliases_loop hwB hwm Q need K w.M.aliases 0
  have k1 := fun (need : List Tm) Q K => types_loop hwB hwm Q need K w.M.types 0
  have k0 := fun (need : List Tm) Q K => imports_loop hwB Q need K w.M.imports 0
  have hS : WS w [] 0 (hset h nx (.cells l)) (nx + 1) (sput σ nx (.cells l)) (tmL (tmL (tmL (tmL (tmL (tmL tm0 [(0, .agg l)]) [(2, .bool false), (1, .ptr nx 0)]) [(40, .bool false)]) [(3, .nilslice)]) [(4, .int .i64 0)]) [(44, .int .i64 0), (43, .int .i64 (M.imports.length : Int))]) := by
    rw [← hw]
    exact ⟨Later.refl hm1, sput_self _ _ _, hr1, rfl, ⟨[], .nilslice, rfl, .nil, by simp, fun t h => by cases h⟩, ⟨0, rfl, by simp⟩⟩
  refine WA.map (g := fun n d => kLoop (R11_20 n (CN n d)) (n - 0) (.fn (tmL (tmL (tmL (tmL (tmL (tmL tm0 [(0, .agg l)]) [(2, .bool false), (1, .ptr nx 0)]) [(40, .bool false)]) [(3, .nilslice)]) [(4, .int .i64 0)]) [(44, .int .i64 0), (43, .int .i64 (M.imports.length : Int))])) [] (hset h nx (.cells l)) (nx + 1) (kLeave 0 (kThen (R11_10 n (CN n d)) (E11 n (CN n d))))) (fun c hc => ?_) ?_
  · unfold F11
    repeat (first | simp -eta only [SY, ↓reduceIte, Nat.reduceEqDiff, Nat.reduceAdd, hb1, r_loadB _ _ hgm, hv0, q0, e0, hv1, q1, e1, hv2, q2, e2, hv3, q3, e3, hv4, q4, e4] | simp -eta only [KY, ↓reduceIte, Nat.reduceEqDiff, R11_0_eq, R11_1_eq, R11_2_eq, R11_3_eq, R11_4_eq, R11_5_eq, R11_6_eq, R11_7_eq, R11_8_eq, R11_9_eq, R11_11_eq, R11_12_eq, R11_15_eq])
    exact Ev.loop (B := fun n d => R11_20 n (CN n d)) (tm := fun _ _ => .fn _) hc
  refine k0 [] _ (fun n d => kThen (R11_10 n (CN n d)) (E11 n (CN n d))) 0 _ _ _ 0 _ rfl (by rw [hwM]; omega) hS (by rw [hwM]; rfl) rfl ?_
  intro u1 h1 nx1 σ1 f1 hu1 s1
  have g1 := mod_ld s1
  obtain ⟨x1, hx1, hy1⟩ := s1.rd.types
  have z1 := hy1.len
  refine WA.map (g := fun n d => kLoop (R11_26 n (CN n d)) (n - 0) (.fn (tmL f1 [(71, .int .i64 0), (70, .int .i64 (w.M.types.length : Int))])) [] h1 nx1 (kLeave 2 (kThen (R11_14 n (CN n d)) (E11 n (CN n d))))) (fun c hc => ?_) ?_
  · repeat (first | simp -eta only [SY, ↓reduceIte, Nat.reduceEqDiff, Nat.reduceAdd, s1.f1, r_loadB _ _ g1, hx1, z1] | simp -eta only [KY, ↓reduceIte, Nat.reduceEqDiff, R11_10_eq, R11_13_eq, R11_16_eq, R11_17_eq, R11_21_eq])
    exact Ev.loop (B := fun n d => R11_26 n (CN n d)) (tm := fun _ _ => .fn _) hc
  refine k1 [] _ (fun n d => kThen (R11_14 n (CN n d)) (E11 n (CN n d))) u1 _ _ _ 0 _ rfl (by rw [hwM] at *; omega) (s1.same (Nat.le_refl _) (Nat.le_refl _) rfl rfl rfl) rfl rfl ?_
  intro u2 h2 nx2 σ2 f2 hu2 s2
  have g2 := mod_ld s2
  obtain ⟨x2, hx2, hy2⟩ := s2.rd.aliases
  have z2 := hy2.len
  refine WA.map (g := fun n d => kLoop (R11_34 n (CN n d)) (n - 0) (.fn (tmL f2 [(175, .int .i64 0), (174, .int .i64 (w.M.aliases.length : Int))])) [] h2 nx2 (kLeave 8 (kThen (R11_19 n (CN n d)) (E11 n (CN n d))))) (fun c hc => ?_) ?_
  · repeat (first | simp -eta only [SY, ↓reduceIte, Nat.reduceEqDiff, Nat.reduceAdd, s2.f1, r_loadB _ _ g2, hx2, z2] | simp -eta only [KY, ↓reduceIte, Nat.reduceEqDiff, R11_14_eq, R11_18_eq, R11_22_eq, R11_23_eq, R11_27_eq])
    exact Ev.loop (B := fun n d => R11_34 n (CN n d)) (tm := fun _ _ => .fn _) hc
  refine k2 [] _ (fun n d => kThen (R11_19 n (CN n d)) (E11 n (CN n d))) u2 _ _ _ 0 _ rfl (by rw [hwM] at *; omega) (s2.same (Nat.le_refl _) (Nat.le_refl _) rfl rfl rfl) rfl rfl ?_
  intro u3 h3 nx3 σ3 f3 hu3 s3
  have g3 := mod_ld s3
  obtain ⟨x3, hx3, hy3⟩ := s3.rd.lets
  have z3 := hy3.len
  refine WA.map (g := fun n d => kLoop (R11_42 n (CN n d)) (n - 0) (.fn (tmL f3 [(239, .int .i64 0), (238, .int .i64 (w.M.lets.length : Int))])) [] h3 nx3 (kLeave 12 (kThen (R11_25 n (CN n d)) (E11 n (CN n d))))) (fun c hc => ?_) ?_
  · repeat (first | simp -eta only [SY, ↓reduceIte, Nat.reduceEqDiff, Nat.reduceAdd, s3.f1, r_loadB _ _ g3, hx3, z3] | simp -eta only [KY, ↓reduceIte, Nat.reduceEqDiff, R11_19_eq, R11_24_eq, R11_28_eq, R11_29_eq, R11_35_eq])
    exact Ev.loop (B := fun n d => R11_42 n (CN n d)) (tm := fun _ _ => .fn _) hc
  refine k3 _ (fun n d => kThen (R11_25 n (CN n d)) (E11 n (CN n d))) u3 [] _ _ _ 0 _ rfl (by rw [hwM] at *; omega) (s3.same (Nat.le_refl _) (Nat.le_refl _) rfl rfl rfl) rfl rfl ?_
  intro u4 h4 nx4 σ4 f4 hu4 s4
  have g4 := mod_ld s4
  obtain ⟨x4, hx4, hy4⟩ := s4.rd.exports
  have z4 := hy4.len
  refine WA.map (g := fun n d => kLoop (R11_48 n (CN n d)) (n - 0) (.fn (tmL f4 [(272, .int .i64 0), (271, .int .i64 (w.M.exports.length : Int))])) [] h4 nx4 (kLeave 14 (kThen (R11_31 n (CN n d)) (E11 n (CN n d))))) (fun c hc => ?_) ?_
  · repeat (first | simp -eta only [SY, ↓reduceIte, Nat.reduceEqDiff, Nat.reduceAdd, s4.f1, r_loadB _ _ g4, hx4, z4] | simp -eta only [KY, ↓reduceIte, Nat.reduceEqDiff, R11_25_eq, R11_30_eq, R11_36_eq, R11_37_eq, R11_43_eq])
    exact Ev.loop (B := fun n d => R11_48 n (CN n d)) (tm := fun _ _ => .fn _) hc
  refine k4 _ _ (fun n d => kThen (R11_31 n (CN n d)) (E11 n (CN n d))) u4 _ _ _ 0 _ rfl (by rw [hwM] at *; omega) (s4.same (Nat.le_refl _) (Nat.le_refl _) rfl rfl rfl) rfl rfl ?_
  intro u5 h5 nx5 σ5 f5 hu5 s5
  obtain ⟨ts, out, t3, ho, hts, hnd⟩ := s5.out
  obtain ⟨nn, t4, hnn⟩ := s5.num
  have hle : nt (ltI 4000 (nn : Int)) = decide (nn ≤ 4000) := le_nat nn 4000
  by_cases hn4 : nn ≤ 4000
  · rw [decide_eq_true hn4] at hle
    -- the list, spoken of
    obtain ⟨σ6, L6, hk6⟩ : ∃ σ6, Later w.h0 w.nx0 w.m w.σ0 h5 nx5 σ6 ∧ RdKsB w.B σ6 ts out := by
      cases ho with
      | nil => exact ⟨σ5, s5.L, .nil⟩
      | row ts b cs hg hs h0 hb hlo hmb hv hl =>
        have hsp := s5.L.mem.speak hg hb hmb
        refine ⟨_, ⟨hsp, s5.L.le, s5.L.old, s5.L.lo, fun k y hy => sput_le hs _ _ (s5.L.sle _ _ hy), fun k hk => by unfold sput; rw [if_neg (by omega)]; exact s5.L.sold k hk⟩, .row ts b 0 none cs (sput_self _ _ _) ?_ (hv.mono (sput_le hs))⟩
        have : w.B = B := by rw [← hw]
        rw [hwM] at *; omega
    obtain ⟨h7, n7, σ7, L7, hrun⟩ := fewAll_ok hwB L6.mem hk6
    refine ⟨h7, n7, σ7, decide (wA ts 0 ≤ 600), L6.trans L7, ?_, fun hb => ⟨fun x hx => ?_, by omega⟩⟩
    · repeat (first | simp -eta only [SY, ↓reduceIte, Nat.reduceEqDiff, Nat.reduceAdd, t3, t4, hle] | simp -eta only [KY, ↓reduceIte, Nat.reduceEqDiff, R11_31_eq])
      refine Ev.call hrun ?_
      refine Ev.pure fun n d => ?_
      repeat (first | simp -eta only [SY, ↓reduceIte, Nat.reduceEqDiff, Nat.reduceAdd] | simp -eta only [KY, ↓reduceIte, Nat.reduceEqDiff, E11_ret])
    · refine wA_mem ts 0 _ (hnd _ ?_) (by simpa using hb)
      rw [hwM]; simpa using ⟨x, hx, rfl⟩
  · rw [decide_eq_false hn4] at hle
    refine ⟨h5, nx5, σ5, false, s5.L, ?_, fun h => by cases h⟩
    refine Ev.pure fun n d => ?_
    repeat (first | simp -eta only [SY, ↓reduceIte, Nat.reduceEqDiff, Nat.reduceAdd, t3, t4, hle] | simp -eta only [KY, ↓reduceIte, Nat.reduceEqDiff, R11_31_eq, E11_ret])
end Go.Proofs.YtaajedkbaahgfaaGreatDoor

/-
Residual of function 5
-/
namespace Go.Proofs.YtaajedkbaahgfaaGreatDoor
open Go Go.AE
set_option maxRecDepth 100000
/-! touchstone/touchstonelaw26.few -/
noncomputable def C5 : Code := Tryz.f5.body.getD .skip
noncomputable def E5 (n : Nat) (call : CallF) : KX CRes := kEnd Tryz.prog true locOfF n call (mapL (rsVar Tryz.prog 4) Tryz.f5.results.toList)
noncomputable def F5 (n : Nat) (call : CallF) (a0 : AV) (a1 : AV) (h : Heap) (nx : Nat) : Option CRes :=
  bd (boxR nx a0) fun r1 =>
  letH (hset h nx r1.2) (Nat.succ nx) fun h2 n3 =>
  bd (boxR n3 a1) fun r4 =>
  letH (hset h2 n3 r4.2) (Nat.succ n3) fun h5 n6 =>
  bd (ldA 5 h5 r4.1) fun v7 =>
  bd (clR call 10 [v7] h5 n6) (ares (fun v8 h9 n10 =>
  bd (wantV true v8) fun b11 => bd (sl b11 ((ldA 5 h9 r1.1)) (some (.tuple []))) fun v12 =>
  bd (wantV true v8) fun b13 => bd (sl b13 (clR call 11 [v12] h9 n10) (some (.val (.tuple []) h9 n10))) (ares (fun v14 h15 n16 =>
  bd (pickV v8 v14 (.bool false)) fun v17 =>
  some (.ret v17 h15 n16)) (fun v18 h19 n20 => some (.pan v18 h19 n20)))) (fun v21 h22 n23 => some (.pan v21 h22 n23)))
theorem F5_eq {sp : Specs} (hsp : sp 5 = none) (n : Nat) (call : CallF) (a0 : AV) (a1 : AV) (h : Heap) (nx : Nat) : callS Tryz.prog true sp locOfF n call 5 [a0, a1] h nx = F5 n call a0 a1 h nx :=
  (call_eq2 Tryz.func5 (c := C5) (N := 11) (dp := 4) (L := 2016) (tm := (.fn (tmL tm0 [(1, a1), (0, a0)]))) (by kernel_rfl) (by kernel_rfl) (by kernel_rfl) (by kernel_rfl) (by kernel_rfl) (by kernel_rfl) hsp n call h nx).trans (by kernel_rfl)
theorem E5_normal (n : Nat) (call : CallF) (f : Nat → Option AV) (h : Heap) (nx : Nat) : E5 n call h nx .normal (.fn f) [] = retL [(f 4)] h nx := by kernel_rfl
theorem E5_ret (n : Nat) (call : CallF) (f : Nat → Option AV) (h : Heap) (nx : Nat) : E5 n call h nx .ret (.fn f) [] = retL [(f 4)] h nx := by kernel_rfl
theorem E5_pan (n : Nat) (call : CallF) (v : AV) (tm : TM) (h : Heap) (nx : Nat) : E5 n call h nx (.pan v) tm [] = some (.pan v h nx) := by kernel_rfl
end Go.Proofs.YtaajedkbaahgfaaGreatDoor

/-
What the functions of the law answer: few; the map of a module's lets.
-/
namespace Go.Proofs.YtaajedkbaahgfaaGreatDoor
open Go Go.AE Go.EV
set_option maxRecDepth 100000
set_option maxHeartbeats 2000000
theorem sp5 : spL 5 = none := rfl
theorem sp7 : spL 7 = none := rfl
theorem sp8 : spL 8 = none := rfl
theorem box5 {l : List AV} (h : l.length = 5) (nx : Nat) : boxR nx (.agg l) = some (.ptr nx 0, .cells l) ∧ (pkAgg 5).run l 0 = some (.agg l) := by
  refine ⟨?_, pkAgg_run (by rw [List.drop_zero, List.take_of_length_le (by omega)]) h⟩
  show gd (Nat.blt 0 (llen l)) _ = _
  rw [llen_eq, h]; rfl
theorem few5_ok {B : Nat} (hB : B ≤ 9223372036854775808) (hB2 : 1000000 ≤ B) (M : Md) (t : Tm) {h : Heap} {nx m : Nat} {σ : Sto} {l l5 : List AV} (hm : Mem h nx m σ) (hr : RdMd B σ M l) (ht : RdTB B σ t l5) :
    ∃ h' nx' σ' b, Later h nx m σ h' nx' σ' ∧ Rn 5 [.agg l, .agg l5] h nx (.ret (.bool b) h' nx') ∧ (b = true → wF t 0 ≤ 600 ∧ (∀ x ∈ M.lets, wF x.body 0 ≤ 600) ∧ M.lets.length ≤ 60) := by
  obtain ⟨hb1, hl1⟩ := box5 hr.len nx
  obtain ⟨hb2, hl2⟩ := box5 (rdt_len5 ht) (nx + 1)
  have L1 := hm.make (id := nx) (nx' := nx + 1) (.cells l) (Nat.le_refl _) (Nat.lt_succ_self _)
  have L2 := L1.trans (L1.mem.make (id := nx + 1) (nx' := nx + 1 + 1) (.cells l5) (Nat.le_refl _) (Nat.lt_succ_self _))
  have g2 := L2.mem.sat _ _ (sput_self _ _ _)
  have s1 : sput (sput σ nx (.cells l)) (nx + 1) (.cells l5) nx = some (.cells l) := by
    unfold sput; rw [if_neg (by omega), if_pos rfl]
  obtain ⟨h3, n3, σ3, L3, hrun⟩ := few_ok t L2.mem (ht.mono L2.sle)
  have L03 := L2.trans L3
  have g1 := L3.mem.sat _ _ (L3.sle _ _ s1)
  have hF : ∀ c, Ev (fun n d => F5 n (CN n d) (.agg l) (.agg l5) h nx) c → Rn 5 [.agg l, .agg l5] h nx c := fun c hc =>
    Rn.of (f := 5) (l := [.agg l, .agg l5]) (g := fun n d => F5 n (CN n d) (.agg l) (.agg l5) h nx) (fun n d => F5_eq sp5 n (CN n d) (.agg l) (.agg l5) h nx) hc
  by_cases hw : wF t 0 ≤ 600
  · rw [decide_eq_true hw] at hrun
    obtain ⟨h4, n4, σ4, b, L4, hrun4, hb⟩ := wfew_ok hB hB2 M L3.mem (hr.mono L03.sle)
    refine ⟨h4, n4, σ4, b, L03.trans L4, hF _ ?_, fun e => ⟨hw, hb e⟩⟩
    unfold F5
    repeat (first | simp -eta only [SY, ↓reduceIte, Nat.reduceEqDiff, Nat.reduceAdd, hb1, hb2, r_loadB _ _ g2, hl2] | simp -eta only [KY, ↓reduceIte, Nat.reduceEqDiff])
    refine Ev.call hrun ?_
    repeat (first | simp -eta only [SY, ↓reduceIte, Nat.reduceEqDiff, Nat.reduceAdd, r_loadB _ _ g1, hl1] | simp -eta only [KY, ↓reduceIte, Nat.reduceEqDiff])
    refine Ev.call hrun4 ?_
    refine Ev.pure fun n d => ?_
    repeat (first | simp -eta only [SY, ↓reduceIte, Nat.reduceEqDiff, Nat.reduceAdd] | simp -eta only [KY, ↓reduceIte, Nat.reduceEqDiff])
  · rw [decide_eq_false hw] at hrun
    refine ⟨h3, n3, σ3, false, L03, hF _ ?_, fun e => by cases e⟩
    unfold F5
    repeat (first | simp -eta only [SY, ↓reduceIte, Nat.reduceEqDiff, Nat.reduceAdd, hb1, hb2, r_loadB _ _ g2, hl2] | simp -eta only [KY, ↓reduceIte, Nat.reduceEqDiff])
    refine Ev.call hrun ?_
    refine Ev.pure fun n d => ?_
    repeat (first | simp -eta only [SY, ↓reduceIte, Nat.reduceEqDiff, Nat.reduceAdd] | simp -eta only [KY, ↓reduceIte, Nat.reduceEqDiff])

/-! ## the map -/
inductive Ents (σ : Sto) : List (Str × Tm) → List Ent → Prop where
  | nil : Ents σ [] []
  | cons (s : Str) (t : Tm) (b o born : Nat) (ks : List (Str × Tm)) (es : List Ent) (h : RdP σ t b o) (r : Ents σ ks es) : Ents σ ((s, t) :: ks) (⟨.str s.1 s.2, .ptr b o, born⟩ :: es)
theorem Ents.app {σ : Sto} {s : Str} {t : Tm} {b o born : Nat} (hp : RdP σ t b o) : ∀ {ks : List (Str × Tm)} {es : List Ent}, Ents σ ks es → Ents σ (ks ++ [(s, t)]) (es ++ [⟨.str s.1 s.2, .ptr b o, born⟩])
  | _, _, .nil => .cons s t b o born [] [] hp .nil
  | _, _, .cons s' t' b' o' born' ks es h r => .cons s' t' b' o' born' _ _ h (r.app hp)
theorem eqT9 : eqT Tryz.prog 8 9 = ⟨eqStrF⟩ := by kernel_rfl
theorem strEq_refl (n x : Nat) : strEq n x n x = true := by
  show andB (Nat.beq n n) (Nat.beq (x % 256 ^ n) (x % 256 ^ n)) = true
  rw [Nat.beq_refl, Nat.beq_refl]
/-- how a key is found -/
theorem Ents.find {σ : Sto} (name : Str) : ∀ {ks : List (Str × Tm)} {es : List Ent} (i : Nat), Ents σ ks es →
    (findL name ks = none ∧ findKey ⟨eqStrF⟩ (.str name.1 name.2) es i = some none) ∨
    ∃ t b o j, findL name ks = some t ∧ RdP σ t b o ∧ findKey ⟨eqStrF⟩ (.str name.1 name.2) es i = some (some (j, .ptr b o))
  | _, _, _, .nil => .inl ⟨rfl, rfl⟩
  | _, _, i, .cons s t b o born ks es h r => by
    have e : findKey ⟨eqStrF⟩ (.str name.1 name.2) (⟨.str s.1 s.2, .ptr b o, born⟩ :: es) i = sel (seq name s) (some (some (i, .ptr b o))) (findKey ⟨eqStrF⟩ (.str name.1 name.2) es (i + 1)) := by
      show sel (strEq name.1 name.2 s.1 s.2) _ _ = _
      rw [seq_eq]; rfl
    cases hs : seq name s with
    | true => rw [hs] at e; exact .inr ⟨t, b, o, i, by show (if seq name s then some t else _) = _; rw [hs]; rfl, h, e⟩
    | false =>
      rw [hs] at e
      rcases r.find name (i + 1) with ⟨h1, h2⟩ | ⟨t', b', o', j, h1, h2, h3⟩
      · exact .inl ⟨by show (if seq name s then some t else _) = _; rw [hs]; exact h1, e.trans h2⟩
      · exact .inr ⟨t', b', o', j, by show (if seq name s then some t else _) = _; rw [hs]; exact h1, h2, e.trans h3⟩
theorem wholeK_str {β : Type} (name : Str) (x : Option β) : wholeK ⟨eqStrF⟩ (.str name.1 name.2) x = x := by
  show ob (some (strEq name.1 name.2 name.1 name.2)) (fun r => guardB r x) = x
  rw [strEq_refl]
theorem seq_iff (a b : Str) : seq a b = true ↔ a.1 = b.1 ∧ a.2 % 256 ^ a.1 = b.2 % 256 ^ b.1 := by simp [seq]
theorem findL_same {name s : Str} (h : seq name s = true) : ∀ (ks : List (Str × Tm)), findL name ks = findL s ks := by
  intro ks
  induction ks with
  | nil => rfl
  | cons p ks ih =>
    unfold findL
    have e : seq name p.1 = seq s p.1 := by
      rw [Bool.eq_iff_iff, seq_iff, seq_iff]
      obtain ⟨h1, h2⟩ := (seq_iff _ _).1 h
      rw [h1] at h2
      rw [h1, h2]
    rw [e, ih]
def letsOf (M : Md) : List (Str × Tm) := M.lets.map fun x => (x.name, x.body)

/-- the loop that makes the map -/
theorem build_loop {B : Nat} (hB : B ≤ 9223372036854775808) (M : Md) {σ : Sto} {l : List AV} {r mb cb bb steps : Nat} (hr : RdMd B σ M l) (hsm : ∀ x ∈ M.lets, Sml x.body) (hbb : σ bb = some (.cells l)) (hsr : σ r = none) (hmr : mb ≠ r) (hcr : cb ≠ r) (K : Nat → Nat → KX CRes) :
    ∀ (ts : List LetD) (i : Nat) (h : Heap) (nx : Nat) (es : List Ent) (ck : Nat) (ks : List (Str × Tm)) (j : Nat) (f : Nat → Option AV),
    M.lets.drop i = ts → hget h r = some (.map es ck) → Ents σ ks es → (∀ name, findL name (ks ++ ts.map fun x => (x.name, x.body)) = findL name (letsOf M)) → (∀ b x, σ b = some x → hget h b = some x) → h.lo ≤ r →
    hget h cb = some (.cells [.ptr mb 0]) → hget h mb = some (.cells [.map r, .int .i64 0, .int .i64 (steps : Int)]) →
    f 3 = some (.ptr bb 0) → f 9 = some (.ptr cb 0) → f 28 = some (.int .i64 (M.lets.length : Int)) → f 29 = some (.int .i64 (i : Int)) →
    ∃ h' nx' es' ck' ks' f', hget h' r = some (.map es' ck') ∧ Ents σ ks' es' ∧ (∀ name, findL name ks' = findL name (letsOf M)) ∧ (∀ b, b ≠ r → hget h' b = hget h b) ∧ h'.lo = h.lo ∧ nx ≤ nx' ∧ (∀ t, t = 4 ∨ t = 6 ∨ t = 7 ∨ t = 8 ∨ t = 9 → f' t = f t) ∧
      ∀ c, Ev (fun n d => K n d h' nx' .normal (.fn f') []) c → Ev (fun n d => kLoop (R7_12 n (CN n d)) (n - j) (.fn f) [] h nx (kLeave 0 (K n d))) c := by
  intro ts
  induction ts with
  | nil =>
    intro i h nx es ck ks j f hts hgr he hfl hsat hlo hgc hgmb f3 f9 f28 f29
    have hge : ¬ i < M.lets.length := by have := congrArg List.length hts; simp at this; omega
    have e1 := nlt_lit _ _ hge
    refine ⟨h, nx, es, ck, ks, tmL f [(30, .bool false)], hgr, he, by simpa using hfl, fun _ _ => rfl, rfl, Nat.le_refl _, ?_, fun c hc => ?_⟩
    · rintro t (rfl | rfl | rfl | rfl | rfl) <;> rfl
    · refine Ev.round (B := fun n d => R7_12 n (CN n d)) (tm := fun _ _ => .fn f) (K := fun n d => kLeave 0 (K n d)) ?_
      repeat (first | simp -eta only [SY, ↓reduceIte, Nat.reduceEqDiff, Nat.reduceAdd, f28, f29, e1] | simp -eta only [KY, ↓reduceIte, Nat.reduceEqDiff, R7_12_eq, R7_13_eq, R7_14_eq, R7_15_eq])
      exact hc
  | cons x xs ih =>
    intro i h nx es ck ks j f hts hgr he hfl hsat hlo hgc hgmb f3 f9 f28 f29
    have hi := drop_lt hts
    have e1 := lt_lit _ _ hi
    obtain ⟨v, hv, hrow⟩ := hr.lets
    obtain ⟨b, o, cs, hix, hb, ⟨hx0, _, hty⟩, _, hbig⟩ := hrow.at hts
    rw [sub_take] at hty
    have hgb := hsat _ _ hb
    have hgl := hsat _ _ hbb
    have c0 : cs[o + i * 7]? = some (.str x.name.1 x.name.2) := by
      rw [← Nat.add_zero (o + i * 7)]; exact (cell_take (n := 7) rfl (by omega)).trans hx0
    have hinc := inc_small hi (by omega)
    have hmem : x ∈ M.lets := List.mem_of_mem_drop (i := i) (by rw [hts]; exact List.mem_cons_self)
    have hp : RdP σ x.body b (o + i * 7 + 2) := ⟨cs, hb, rdt_sml (by omega) hty (hsm x hmem)⟩
    have hk0 : ∀ (β : Type) (q : Option β), wholeK (eqT Tryz.prog 8 9) (.str x.name.1 x.name.2) q = q := by intro β q; rw [eqT9]; exact wholeK_str x.name q
    have hlook : ∀ (z : AV), lookV (eqT Tryz.prog 8 9) z false h (.map r) (.str x.name.1 x.name.2) = ob (findKey (eqT Tryz.prog 8 9) (.str x.name.1 x.name.2) es 0) (foundV false z) := by
      intro z
      unfold lookV
      show ob (ob (hget h r) _) _ = _
      rw [hgr]
      exact hk0 _ _
    rcases he.find x.name 0 with ⟨h1, h2⟩ | ⟨t', b', o', k', h1, h2, h3⟩
    · have hl0 : lookV (eqT Tryz.prog 8 9) .nilptr false h (.map r) (.str x.name.1 x.name.2) = some .nilptr := by rw [hlook, eqT9, h2]; rfl
      have hro1 := hro_high hlo
      have hput : ∀ nx, mapR (eqT Tryz.prog 8 9) h nx (.map r) (.str x.name.1 x.name.2) (.ptr b (o + i * 7 + 2)) = some (.val (.tuple []) (hset h r (.map (es ++ [⟨.str x.name.1 x.name.2, .ptr b (o + i * 7 + 2), ck⟩]) (ck + 1))) nx) := by
        intro nx
        unfold mapR mapSet
        show ob (guardB (notB (hro h r)) (ob (hget h r) _)) _ = _
        rw [hro1, hgr]
        show ob (wholeK (eqT Tryz.prog 8 9) (.str x.name.1 x.name.2) (ob (findKey (eqT Tryz.prog 8 9) (.str x.name.1 x.name.2) es 0) _)) _ = _
        rw [hk0, eqT9, h2]
        show some (ARes.val _ (hset h r (.map (lapp es _) _)) _) = _
        rw [lapp_eq]
      have hfl' : ∀ name, findL name ((ks ++ [(x.name, x.body)]) ++ xs.map fun x => (x.name, x.body)) = findL name (letsOf M) := fun name => by simpa using hfl name
      obtain ⟨h', nx', es', ck', ks', f', a1, a2, a3, a4, a5, a6, a7, a8⟩ := ih (i + 1) (hset h r (.map (es ++ [⟨.str x.name.1 x.name.2, .ptr b (o + i * 7 + 2), ck⟩]) (ck + 1))) (nx + 10 + 12) _ (ck + 1) _ (j + 1)
        (tmL (tmL (tmL f [(30, .bool true)]) [(45, .bool true), (11, .ptr b (o + i * 7)), (10, .int .i64 (i : Int))]) [(29, .int .i64 ((i + 1 : Nat) : Int))]) (drop_tail hts) (by rw [hget_set, if_pos rfl]) (he.app hp) hfl'
        (fun q y hq => by rw [hget_set, if_neg (fun e => by rw [e, hsr] at hq; cases hq)]; exact hsat q y hq) (by rw [hset_lo]; exact hlo) (by rw [hget_set, if_neg hcr]; exact hgc) (by rw [hget_set, if_neg hmr]; exact hgmb) f3 f9 f28 rfl
      refine ⟨h', nx', es', ck', ks', f', a1, a2, a3, fun q hq => (a4 q hq).trans (by rw [hget_set, if_neg hq]), a5.trans (hset_lo _ _ _), by omega, ?_, fun c hc => ?_⟩
      · rintro t (rfl | rfl | rfl | rfl | rfl) <;> exact a7 _ (by simp)
      · refine Ev.round (B := fun n d => R7_12 n (CN n d)) (tm := fun _ _ => .fn f) (K := fun n d => kLeave 0 (K n d)) ?_
        repeat (first | simp -eta only [SY, ↓reduceIte, Nat.reduceEqDiff, Nat.reduceAdd, f3, f9, f28, f29, e1, r_loadB _ _ hgl, hv, hix, r_loadB _ _ hgc, r_loadB _ _ hgmb, r_loadB _ _ hgb, c0, hl0, hput, hinc] | simp -eta only [KY, ↓reduceIte, Nat.reduceEqDiff, R7_12_eq, R7_13_eq, R7_14_eq, R7_15_eq, R7_16_eq, R7_17_eq, R7_18_eq])
        exact a8 c hc
    · have hl0 : lookV (eqT Tryz.prog 8 9) .nilptr false h (.map r) (.str x.name.1 x.name.2) = some (.ptr b' o') := by rw [hlook, eqT9, h3]; rfl
      have hfl' : ∀ name, findL name (ks ++ xs.map fun x => (x.name, x.body)) = findL name (letsOf M) := fun name => by
        rw [← hfl name]
        have key : ∀ (rest : List (Str × Tm)), findL name (ks ++ rest) = findL name (ks ++ (x.name, x.body) :: rest) := by
          intro rest
          cases hn : findL name ks with
          | some q =>
            have aux : ∀ (ks r : List (Str × Tm)), findL name ks = some q → findL name (ks ++ r) = some q := by
              intro ks
              induction ks with
              | nil => intro r h; cases h
              | cons p ks ih =>
                intro r h
                unfold findL at h
                show (if seq name p.1 then some p.2 else findL name (ks ++ r)) = _
                by_cases hp : seq name p.1 = true
                · rw [if_pos hp] at h ⊢; exact h
                · rw [if_neg hp] at h ⊢; exact ih r h
            rw [aux ks _ hn, aux ks _ hn]
          | none =>
            have aux : ∀ (ks r : List (Str × Tm)), findL name ks = none → findL name (ks ++ r) = findL name r := by
              intro ks
              induction ks with
              | nil => intro r h; rfl
              | cons p ks ih =>
                intro r h
                unfold findL at h
                show (if seq name p.1 then some p.2 else findL name (ks ++ r)) = _
                by_cases hp : seq name p.1 = true
                · rw [if_pos hp] at h; cases h
                · rw [if_neg hp] at h ⊢; exact ih r h
            rw [aux ks _ hn, aux ks _ hn]
            show _ = (if seq name x.name then some x.body else findL name rest)
            rw [if_neg]
            intro hs
            rw [findL_same hs, h1] at hn; cases hn
        exact key _
      obtain ⟨h', nx', es', ck', ks', f', a1, a2, a3, a4, a5, a6, a7, a8⟩ := ih (i + 1) h (nx + 10) es ck ks (j + 1)
        (tmL (tmL (tmL f [(30, .bool true)]) [(45, .bool false), (11, .ptr b (o + i * 7)), (10, .int .i64 (i : Int))]) [(29, .int .i64 ((i + 1 : Nat) : Int))]) (drop_tail hts) hgr he hfl' hsat hlo hgc hgmb f3 f9 f28 rfl
      refine ⟨h', nx', es', ck', ks', f', a1, a2, a3, a4, a5, by omega, ?_, fun c hc => ?_⟩
      · rintro t (rfl | rfl | rfl | rfl | rfl) <;> exact a7 _ (by simp)
      · refine Ev.round (B := fun n d => R7_12 n (CN n d)) (tm := fun _ _ => .fn f) (K := fun n d => kLeave 0 (K n d)) ?_
        have hpe : binV .eql (eqT Tryz.prog 8 52) true (!(Tryz.prog.eqGuardType Tryz.prog.depth 52)) .nilptr (.ptr b' o') = some (.bool false) := by kernel_rfl
        repeat (first | simp -eta only [SY, ↓reduceIte, Nat.reduceEqDiff, Nat.reduceAdd, f3, f9, f28, f29, e1, r_loadB _ _ hgl, hv, hix, r_loadB _ _ hgc, r_loadB _ _ hgmb, r_loadB _ _ hgb, c0, hl0, hpe, hinc] | simp -eta only [KY, ↓reduceIte, Nat.reduceEqDiff, R7_12_eq, R7_13_eq, R7_14_eq, R7_15_eq, R7_16_eq, R7_17_eq, R7_18_eq])
        exact a8 c hc
end Go.Proofs.YtaajedkbaahgfaaGreatDoor

/-
What the functions of the law answer: Eval.
-/
namespace Go.EV
def tz : Tm := .mk 0 (0, 0) (0, 0) 0 []
/-- what Eval answers: the value's term, the steps taken, the error's number -/
def evalT (lets : List (Str × Tm)) (t : Tm) (steps : Nat) : Tm × Nat × Int := match evalN lets steps t [] with
  | .err e l => (tz, steps - l, e)
  | .ok v l => match shV v 20000 with
    | some (q, _) => (q, steps - l, 0)
    | none => (tz, steps - l, 9)
end Go.EV
namespace Go.Proofs.YtaajedkbaahgfaaGreatDoor
open Go Go.AE Go.EV
set_option maxRecDepth 100000
set_option maxHeartbeats 4000000
theorem Mem.swap {h : Heap} {nx m m' : Nat} {σ : Sto} (hm : Mem h nx m σ) (hs : σ m' = Option.none) (hlt : m' < nx) : Mem h nx m' σ := ⟨hm.sat, hm.dom, hs, hm.lo, hlt⟩
theorem Later.swap {h h1 h2 : Heap} {nx nx1 nx2 m m' : Nat} {σ σ1 σ2 : Sto} (a : Later h nx m σ h1 nx1 σ1) (b : Later h1 nx1 m' σ1 h2 nx2 σ2) (hm : nx ≤ m') : Later h nx m σ h2 nx2 σ2 :=
  ⟨⟨b.mem.sat, b.mem.dom, (b.sold m a.mem.mlt).trans a.mem.mn, b.mem.lo, Nat.lt_of_lt_of_le a.mem.mlt b.le⟩, Nat.le_trans a.le b.le, fun x hx hxm => (b.old x (Nat.lt_of_lt_of_le hx a.le) (by omega)).trans (a.old x hx hxm), b.lo.trans a.lo, fun x y h => b.sle _ _ (a.sle _ _ h), fun x hx => (b.sold x (Nat.lt_of_lt_of_le hx a.le)).trans (a.sold x hx)⟩
theorem clU3 (call : CallF) (g : FuncId) (a b c : AV) (h : Heap) (nx : Nat) : clU call g [some a, some b, some c] h nx = clR call g [a, b, c] h nx := nd rfl
theorem evU0 : evU [] = some [] := nd rfl
theorem evU4 (a b c d : AV) : evU [some a, some b, some c, some d] = some [a, b, c, d] := nd rfl
theorem lapp4 (a b c d : AV) : lapp [] (lapp [] [a, b, c, d]) = [a, b, c, d] := nd rfl
theorem evalN_len (lets : List (Str × Tm)) (steps : Nat) (t : Tm) : match evalN lets steps t [] with | .ok _ l => l ≤ steps | .err _ l => l ≤ steps := evalF_out lets steps steps t []

/-- the state behind the map, the rest of Eval to come -/
structure Rest (M : Md) (t : Tm) (steps : Nat) (h0 : Heap) (nx0 m : Nat) (σ0 : Sto) (h : Heap) (nx : Nat) (σ : Sto) (f : Nat → Option AV) : Prop where
  L : Later h0 nx0 m σ0 h nx σ
  n8 : nx0 + 8 ≤ nx
  lets : Lets σ (letsOf M) (.map (nx0 + 5))
  cell : hget h (nx0 + 7) = some (.cells [.ptr (nx0 + 6) 0])
  mch : hget h (nx0 + 6) = some (.cells [.map (nx0 + 5), .int .i64 0, .int .i64 (steps : Int)])
  term : RdP σ t (nx0 + 1) 0
  r2 : hget h (nx0 + 2) = some (.cells zt)
  r3 : hget h (nx0 + 3) = some (.cells [.int .i64 0])
  r4 : hget h (nx0 + 4) = some (.cells [.int .i64 0])
  s : ∀ b, b = nx0 + 2 ∨ b = nx0 + 3 ∨ b = nx0 + 4 ∨ b = nx0 + 6 ∨ b = nx0 + 7 → σ b = none
  f4 : f 4 = some (.ptr (nx0 + 1) 0)
  f6 : f 6 = some (.ptr (nx0 + 2) 0)
  f7 : f 7 = some (.ptr (nx0 + 3) 0)
  f8 : f 8 = some (.ptr (nx0 + 4) 0)
  f9 : f 9 = some (.ptr (nx0 + 7) 0)
abbrev zv : List AV := [.int .i64 0, .str 0 0, .str 0 0, .int .i64 0, .nilslice, .nilptr, .nilptr]
def EvAns (h0 : Heap) (nx0 m : Nat) (σ0 : Sto) (g : Nat → Nat → Option CRes) (r : Tm × Nat × Int) : Prop :=
  ∃ h' nx' σ' cs, Later h0 nx0 m σ0 h' nx' σ' ∧ Ev g (.ret (.tuple [.agg cs, .int .i64 (r.2.1 : Int), .int .i64 r.2.2]) h' nx') ∧ RdT σ' r.1 cs
/-- an end by a panic of its own -/
theorem rest_pan {M : Md} {t : Tm} {steps : Nat} {h0 : Heap} {nx0 m : Nat} {σ0 : Sto} {h h3 : Heap} {nx nx3 lf : Nat} {σ σ3 : Sto} {f : Nat → Option AV} (R : Rest M t steps h0 nx0 m σ0 h nx σ f) (hm0 : h0.lo ≤ nx0) (L : Later h0 nx0 m σ0 h3 nx3 σ3) (hn : nx ≤ nx3) (hs : ∀ b, b < nx → σ3 b = σ b)
    (hold : ∀ b, b = nx0 + 2 ∨ b = nx0 + 3 ∨ b = nx0 + 4 ∨ b = nx0 + 7 → hget h3 b = hget h b) (hle : lf ≤ steps) (hmch : hget h3 (nx0 + 6) = some (.cells [.map (nx0 + 5), .int .i64 ((steps : Int) - (lf : Int)), .int .i64 (steps : Int)])) (e : Int) (f' : Nat → Option AV) (f6 : f' 6 = f 6) (f7 : f' 7 = f 7) (f8 : f' 8 = f 8) :
    EvAns h0 nx0 m σ0 (fun n d => E7 n (CN n d) h3 nx3 (.pan (ended e)) (.fn f') [(14, [.ptr (nx0 + 7) 0, .ptr (nx0 + 2) 0, .ptr (nx0 + 3) 0, .ptr (nx0 + 4) 0])]) (tz, steps - lf, e) := by
  have n8 := R.n8
  have hlo3 := L.lo
  have hS : ∀ b, b = nx0 + 2 ∨ b = nx0 + 3 ∨ b = nx0 + 4 → σ3 b = none := fun b hb => (hs b (by omega)).trans (R.s b (by omega))
  have hnx3 : σ3 nx3 = none := L.mem.none (Nat.le_refl _)
  have L1 := L.trans (L.mem.alloc (id := nx3) (nx' := nx3 + 1 + 10) (x := .cells [.int .i64 0]) (Nat.le_refl _) (by omega))
  have L2 := (((L1.write (.cells [.int .i64 e]) (id := nx3) (by omega) hnx3).write (.cells zt) (id := nx0 + 2) (by omega) (hS _ (by simp))).write (.cells [.int .i64 ((steps : Int) - (lf : Int))]) (id := nx0 + 3) (by omega) (hS _ (by simp))).write (.cells [.int .i64 e]) (id := nx0 + 4) (by omega) (hS _ (by simp))
  refine ⟨_, _, _, zt, L2, Ev.pure fun n d => ?_, .mk 0 (0, 0) (0, 0) 0 [] _ .nil⟩
  have := eval_recover (h := h3) (nx := nx3) (a := nx0 + 7) (b := nx0 + 2) (c := nx0 + 3) (d := nx0 + 4) (mb := nx0 + 6) (bv := .nilptr) (e := e) f' n (CN n d) ((hold _ (by simp)).trans R.cell) hmch ((hold _ (by simp)).trans R.r2) rfl ((hold _ (by simp)).trans R.r3) ((hold _ (by simp)).trans R.r4)
    (by omega) (by omega) (by omega) (by omega) (by omega) (by omega) (by omega) (by omega) (by omega) (by omega) (by omega) (f6.trans R.f6) (f7.trans R.f7) (f8.trans R.f8)
  rw [this]
  have : ((steps - lf : Nat) : Int) = (steps : Int) - (lf : Int) := by omega
  show _ = some (CRes.ret (.tuple [.agg zt, .int .i64 ((steps - lf : Nat) : Int), .int .i64 e]) _ _)
  rw [this]
theorem rest_ok {M : Md} {t : Tm} {steps : Nat} {h0 : Heap} {nx0 m : Nat} {σ0 : Sto} {h : Heap} {nx : Nat} {σ : Sto} {f : Nat → Option AV} (hst : steps ≤ 20000) (hm0 : h0.lo ≤ nx0) (R : Rest M t steps h0 nx0 m σ0 h nx σ f) :
    EvAns h0 nx0 m σ0 (fun n d => R7_8 n (CN n d) (.fn f) [] h nx (E7 n (CN n d))) (evalT (letsOf M) t steps) := by
  have n8 := R.n8
  have hsz : σ nx = none := R.L.mem.none (Nat.le_refl _)
  have hlo := R.L.lo
  -- the counter
  have hput : putCells (hset h nx (.cells [.int .i64 0])) nx 0 1 [.int .i64 20000] = some (hset (hset h nx (.cells [.int .i64 0])) nx (.cells [.int .i64 20000])) := putCells_ok' rfl rfl (hro_high (by rw [hset_lo]; omega)) (by rw [hget_set, if_pos rfl]) rfl
  have L2 := R.L.trans (((R.L.mem.alloc (id := nx) (nx' := nx + 1) (x := .cells [.int .i64 0]) (Nat.le_refl _) (Nat.lt_succ_self _))).write (.cells [.int .i64 20000]) (id := nx) (Nat.le_refl _) hsz)
  have hg2 : ∀ b, b ≠ nx → hget (hset (hset h nx (.cells [.int .i64 0])) nx (.cells [.int .i64 20000])) b = hget h b := fun b hb => by rw [hget_set, if_neg hb, hget_set, if_neg hb]
  have hgl : hget (hset (hset h nx (.cells [.int .i64 0])) nx (.cells [.int .i64 20000])) nx = some (.cells [.int .i64 20000]) := by rw [hget_set, if_pos rfl]
  generalize hh2 : hset (hset h nx (.cells [.int .i64 0])) nx (.cells [.int .i64 20000]) = h2 at hput L2 hg2 hgl
  have hc2 := (hg2 (nx0 + 7) (by omega)).trans R.cell
  have hm2 := (hg2 (nx0 + 6) (by omega)).trans R.mch
  have hst2 : St ⟨letsOf M, .map (nx0 + 5), steps, nx0 + 6⟩ h2 (nx + 1) σ steps :=
    ⟨L2.mem.swap (R.s (nx0 + 6) (by simp)) (by show nx0 + 6 < nx + 1; omega), by rw [hm2]; show _ = some (Blk.cells [.map (nx0 + 5), .int .i64 ((steps : Int) - (steps : Int)), .int .i64 (steps : Int)]); rw [Int.sub_self], by rw [L2.lo]; show h0.lo ≤ nx0 + 6; omega, R.lets, Nat.le_refl _, hst⟩
  have hev := eval_ok hst2 R.term .nil
  have hlen := evalN_len (letsOf M) steps t
  unfold evalT
  cases hr : evalN (letsOf M) steps t [] with
  | err e lf =>
    rw [hr] at hev hlen
    obtain ⟨h3, n3, σ3, L3, s3, hrun3⟩ := hev
    have L03 := L2.swap L3 (by show nx0 ≤ nx0 + 6; omega)
    have hP := rest_pan R hm0 L03 (by have := L3.le; omega) (fun b hb => L3.sold b (by omega)) (fun b hb => (L3.old b (by show b < nx + 1; omega) (by show b ≠ nx0 + 6; omega)).trans (hg2 b (by omega))) hlen s3.mch e (tmL f [(12, .ptr nx 0)]) rfl rfl rfl
    obtain ⟨h', nx', σ', cs, a1, a2, a3⟩ := hP
    refine ⟨h', nx', σ', cs, a1, ?_, a3⟩
    repeat (first | simp -eta only [SY, ↓reduceIte, Nat.reduceEqDiff, Nat.reduceAdd, R.f4, R.f6, R.f7, R.f8, R.f9, evU0, evU4, lapp4, hput, r_loadB _ _ hc2, clU3] | simp -eta only [KY, ↓reduceIte, Nat.reduceEqDiff, R7_8_eq])
    exact Ev.callPan hrun3 a2
  | ok v lf =>
    rw [hr] at hev hlen
    obtain ⟨h3, n3, σ3, cs3, L3, s3, hrun3, hv3⟩ := hev
    have hle3 := L3.le
    have hs3 : σ3 n3 = none := L3.mem.none (Nat.le_refl _)
    have hput3 : putCells (hset h3 n3 (.cells zv)) n3 0 7 cs3 = some (hset (hset h3 n3 (.cells zv)) n3 (.cells cs3)) := by
      have h2 : lsplice 0 cs3 zv = some cs3 := by
        match cs3, rdv_len hv3 with
        | [_, _, _, _, _, _, _], _ => rfl
      exact putCells_ok' (rdv_len hv3) (rdv_one hv3) (hro_high (by rw [hset_lo, L3.lo, L2.lo]; omega)) (by rw [hget_set, if_pos rfl]) h2
    have L4 := L3.trans ((L3.mem.alloc (id := n3) (nx' := n3 + 1) (x := .cells zv) (Nat.le_refl _) (Nat.lt_succ_self _)).write (.cells cs3) (id := n3) (Nat.le_refl _) hs3)
    have hg4 : ∀ b, b ≠ n3 → hget (hset (hset h3 n3 (.cells zv)) n3 (.cells cs3)) b = hget h3 b := fun b hb => by rw [hget_set, if_neg hb, hget_set, if_neg hb]
    have hgv4 : hget (hset (hset h3 n3 (.cells zv)) n3 (.cells cs3)) n3 = some (.cells cs3) := by rw [hget_set, if_pos rfl]
    generalize hh4 : hset (hset h3 n3 (.cells zv)) n3 (.cells cs3) = h4 at hput3 L4 hg4 hgv4
    have hrun7 : (pkAgg 7).run cs3 0 = some (.agg cs3) := pkAgg_run (by rw [List.drop_zero, List.take_of_length_le (by rw [rdv_len hv3]; omega)]) (rdv_len hv3)
    have hold4 : ∀ b, b < nx + 1 → b ≠ nx0 + 6 → hget h4 b = hget h2 b := fun b h1 h2 => (hg4 b (by omega)).trans (L3.old b h1 h2)
    have hc4 := (hold4 (nx0 + 7) (by omega) (by omega)).trans hc2
    have hm4 := (hg4 (nx0 + 6) (by omega)).trans s3.mch
    have hl4 := (hold4 nx (by omega) (by omega)).trans hgl
    have L04 := L2.swap L4 (by show nx0 ≤ nx0 + 6; omega)
    have hsl : σ3 nx = none := (L3.sold nx (by omega)).trans hsz
    have hsh := sh_ok v h4 (n3 + 1) nx σ3 20000 cs3 (nx0 + 6) 0 (L04.mem.swap hsl (by omega)) hl4 (by rw [L04.lo]; omega) (Nat.le_refl _) hv3
    have hsplit : ∀ r, shV v 20000 = r → (match Res.ok v lf with | .err e l => (tz, steps - l, e) | .ok v l => match shV v 20000 with | some (q, _) => (q, steps - l, 0) | none => (tz, steps - l, 9)) = (match r with | some (q, _) => (q, steps - lf, (0 : Int)) | none => (tz, steps - lf, 9)) := fun r h => by rw [← h]
    cases hq : shV v 20000 with
    | none =>
      rw [hsplit _ hq]
      rw [hq] at hsh
      obtain ⟨h5, n5, σ5, L5, hrun5⟩ := hsh
      have hle5 := L5.le
      have L05 := L04.swap L5 (by omega)
      have hP := rest_pan (h3 := h5) (lf := lf) R hm0 L05 (by omega) (fun b hb => (L5.sold b (by omega)).trans (L3.sold b (by omega))) (fun b hb => (L5.old b (by omega) (by omega)).trans ((hold4 b (by omega) (by omega)).trans (hg2 b (by omega)))) hlen ((L5.old (nx0 + 6) (by omega) (by omega)).trans hm4) 9 (tmL f [(13, .ptr n3 0), (12, .ptr nx 0)]) rfl rfl rfl
      obtain ⟨h', nx', σ', cs, a1, a2, a3⟩ := hP
      refine ⟨h', nx', σ', cs, a1, ?_, a3⟩
      repeat (first | simp -eta only [SY, ↓reduceIte, Nat.reduceEqDiff, Nat.reduceAdd, R.f4, R.f6, R.f7, R.f8, R.f9, evU0, evU4, lapp4, hput, r_loadB _ _ hc2, clU3] | simp -eta only [KY, ↓reduceIte, Nat.reduceEqDiff, R7_8_eq])
      refine Ev.call hrun3 ?_
      repeat (first | simp -eta only [SY, ↓reduceIte, Nat.reduceEqDiff, Nat.reduceAdd, hput3, r_loadB _ _ hc4, r_loadB _ _ hgv4, hrun7] | simp -eta only [KY, ↓reduceIte, Nat.reduceEqDiff])
      exact Ev.callPan hrun5 a2
    | some ql =>
      obtain ⟨q, lq⟩ := ql
      rw [hsplit _ hq]
      rw [hq] at hsh
      obtain ⟨h5, n5, σ5, cs5, L5, _, hrun5, ht5, _⟩ := hsh
      have hle5 := L5.le
      have L05 := L04.swap L5 (by omega)
      have hs5 : σ5 n5 = none := L5.mem.none (Nat.le_refl _)
      have hlo5 : h5.lo = h0.lo := L05.lo
      have hspl : ∀ l0 : List AV, l0.length = 5 → lsplice 0 cs5 l0 = some cs5 := fun l0 hl0 => by
        match cs5, rdt_len ht5, l0, hl0 with
        | [_, _, _, _, _], _, [_, _, _, _, _], _ => rfl
      have hput6 : putCells (hset h5 n5 (.cells zt)) n5 0 5 cs5 = some (hset (hset h5 n5 (.cells zt)) n5 (.cells cs5)) :=
        putCells_ok' (rdt_len ht5) (rdt_one ht5) (hro_high (by rw [hset_lo]; omega)) (by rw [hget_set, if_pos rfl]) (hspl zt rfl)
      have L6 := L05.trans ((L05.mem.alloc (id := n5) (nx' := n5 + 1 + 8) (x := .cells zt) (Nat.le_refl _) (by omega)).write (.cells cs5) (id := n5) (Nat.le_refl _) hs5)
      have hg6 : ∀ b, b ≠ n5 → hget (hset (hset h5 n5 (.cells zt)) n5 (.cells cs5)) b = hget h5 b := fun b hb => by rw [hget_set, if_neg hb, hget_set, if_neg hb]
      have hgt6 : hget (hset (hset h5 n5 (.cells zt)) n5 (.cells cs5)) n5 = some (.cells cs5) := by rw [hget_set, if_pos rfl]
      generalize hh6 : hset (hset h5 n5 (.cells zt)) n5 (.cells cs5) = h6 at hput6 L6 hg6 hgt6
      have hlo6 : h6.lo = h0.lo := L6.lo
      have hrunT : (pkAgg 5).run cs5 0 = some (.agg cs5) := pkAgg_run (by rw [List.drop_zero, List.take_of_length_le (by rw [rdt_len ht5]; omega)]) (rdt_len ht5)
      have hold6 : ∀ b, b < nx → b ≠ nx0 + 6 → hget h6 b = hget h b := fun b h1 h2 => (hg6 b (by omega)).trans ((L5.old b (by omega) (by omega)).trans ((hold4 b (by omega) h2).trans (hg2 b (by omega))))
      have hm6 := (hg6 (nx0 + 6) (by omega)).trans ((L5.old (nx0 + 6) (by omega) (by omega)).trans hm4)
      have hc6 := (hold6 (nx0 + 7) (by omega) (by omega)).trans R.cell
      have hS : ∀ b, b = nx0 + 2 ∨ b = nx0 + 3 ∨ b = nx0 + 4 → σ5 b = none := fun b hb => (L5.sold b (by omega)).trans ((L3.sold b (by omega)).trans (R.s b (by omega)))
      have L7 := L6.write (.cells cs5) (id := nx0 + 2) (by omega) (hS _ (by simp))
      have hput7 : putCells h6 (nx0 + 2) 0 5 cs5 = some (hset h6 (nx0 + 2) (.cells cs5)) := putCells_ok' (rdt_len ht5) (rdt_one ht5) (hro_high (by omega)) ((hold6 (nx0 + 2) (by omega) (by omega)).trans R.r2) (hspl zt rfl)
      have hg7 : ∀ b, b ≠ nx0 + 2 → hget (hset h6 (nx0 + 2) (.cells cs5)) b = hget h6 b := fun b hb => by rw [hget_set, if_neg hb]
      have hgr7 : hget (hset h6 (nx0 + 2) (.cells cs5)) (nx0 + 2) = some (.cells cs5) := by rw [hget_set, if_pos rfl]
      generalize hh7 : hset h6 (nx0 + 2) (.cells cs5) = h7 at hput7 L7 hg7 hgr7
      have hlo7 : h7.lo = h0.lo := L7.lo
      have hm7 := (hg7 (nx0 + 6) (by omega)).trans hm6
      have hc7 := (hg7 (nx0 + 7) (by omega)).trans hc6
      have L8 := L7.write (.cells [.int .i64 ((steps : Int) - (lf : Int))]) (id := nx0 + 3) (by omega) (hS _ (by simp))
      have hput8 : putCells h7 (nx0 + 3) 0 1 [.int .i64 ((steps : Int) - (lf : Int))] = some (hset h7 (nx0 + 3) (.cells [.int .i64 ((steps : Int) - (lf : Int))])) := putCells_ok' rfl rfl (hro_high (by omega)) ((hg7 (nx0 + 3) (by omega)).trans ((hold6 (nx0 + 3) (by omega) (by omega)).trans R.r3)) rfl
      have hg8 : ∀ b, b ≠ nx0 + 3 → hget (hset h7 (nx0 + 3) (.cells [.int .i64 ((steps : Int) - (lf : Int))])) b = hget h7 b := fun b hb => by rw [hget_set, if_neg hb]
      have hgr8 : hget (hset h7 (nx0 + 3) (.cells [.int .i64 ((steps : Int) - (lf : Int))])) (nx0 + 3) = some (.cells [.int .i64 ((steps : Int) - (lf : Int))]) := by rw [hget_set, if_pos rfl]
      generalize hh8 : hset h7 (nx0 + 3) (.cells [.int .i64 ((steps : Int) - (lf : Int))]) = h8 at hput8 L8 hg8 hgr8
      have hlo8 : h8.lo = h0.lo := L8.lo
      have L9 := L8.write (.cells [.int .i64 0]) (id := nx0 + 4) (by omega) (hS _ (by simp))
      have hput9 : putCells h8 (nx0 + 4) 0 1 [.int .i64 0] = some (hset h8 (nx0 + 4) (.cells [.int .i64 0])) := putCells_ok' rfl rfl (hro_high (by omega)) ((hg8 (nx0 + 4) (by omega)).trans ((hg7 (nx0 + 4) (by omega)).trans ((hold6 (nx0 + 4) (by omega) (by omega)).trans R.r4))) rfl
      have hg9 : ∀ b, b ≠ nx0 + 4 → hget (hset h8 (nx0 + 4) (.cells [.int .i64 0])) b = hget h8 b := fun b hb => by rw [hget_set, if_neg hb]
      have hgr9 : hget (hset h8 (nx0 + 4) (.cells [.int .i64 0])) (nx0 + 4) = some (.cells [.int .i64 0]) := by rw [hget_set, if_pos rfl]
      generalize hh9 : hset h8 (nx0 + 4) (.cells [.int .i64 0]) = h9 at hput9 L9 hg9 hgr9
      have hr9 := (hg9 (nx0 + 2) (by omega)).trans ((hg8 (nx0 + 2) (by omega)).trans hgr7)
      have hn9 := (hg9 (nx0 + 3) (by omega)).trans hgr8
      refine ⟨h9, _, σ5, cs5, L9, ?_, ht5⟩
      repeat (first | simp -eta only [SY, ↓reduceIte, Nat.reduceEqDiff, Nat.reduceAdd, R.f4, R.f6, R.f7, R.f8, R.f9, evU0, evU4, lapp4, hput, r_loadB _ _ hc2, clU3] | simp -eta only [KY, ↓reduceIte, Nat.reduceEqDiff, R7_8_eq])
      refine Ev.call hrun3 ?_
      repeat (first | simp -eta only [SY, ↓reduceIte, Nat.reduceEqDiff, Nat.reduceAdd, hput3, r_loadB _ _ hc4, r_loadB _ _ hgv4, hrun7] | simp -eta only [KY, ↓reduceIte, Nat.reduceEqDiff])
      refine Ev.call hrun5 ?_
      refine Ev.pure fun n d => ?_
      have hst1 : cellsA (.int .i64 ((steps : Int) - (lf : Int))) = [.int .i64 ((steps : Int) - (lf : Int))] := rfl
      have e : ((steps - lf : Nat) : Int) = (steps : Int) - (lf : Int) := by omega
      show _ = some (CRes.ret (.tuple [.agg cs5, .int .i64 ((steps - lf : Nat) : Int), .int .i64 0]) h9 (n5 + 1 + 8))
      rw [e]
      repeat (first | simp -eta only [SY, ↓reduceIte, Nat.reduceEqDiff, Nat.reduceAdd, R.f6, R.f7, R.f8, R.f9, hput6, r_loadB _ _ hgt6, hrunT, hput7, r_loadB _ _ hc7, r_loadB _ _ hc6, r_loadB _ _ hm7, r_loadB _ _ hm6, hput8, hput9, r_loadB _ _ hr9, r_loadB _ _ hn9, r_loadB _ _ hgr9] | simp -eta only [KY, ↓reduceIte, Nat.reduceEqDiff, D14_retN, E7_ret])
/-- Eval, whatever it is given -/
theorem eval7_ok {B : Nat} (hB : B ≤ 9223372036854775808) (M : Md) (t : Tm) {steps : Nat} (h1 : 1 ≤ steps) (hst : steps ≤ 20000) {h : Heap} {nx m : Nat} {σ : Sto} {l l5 : List AV} (hm : Mem h nx m σ) (hr : RdMd B σ M l) (hsm : ∀ x ∈ M.lets, Sml x.body) (ht : RdT σ t l5) :
    EvAns h nx m σ (fun n d => CN n d 7 [.agg l, .agg l5, .int .i64 (steps : Int)] h nx) (evalT (letsOf M) t steps) := by
  have hlo := hm.lo
  obtain ⟨hb1, hl1⟩ := box5 hr.len nx
  obtain ⟨hb2, hl2⟩ := box5 (rdt_len ht) (nx + 1)
  have L1 := hm.make (id := nx) (nx' := nx + 1) (.cells l) (Nat.le_refl _) (Nat.lt_succ_self _)
  have L2 := L1.trans (L1.mem.make (id := nx + 1) (nx' := nx + 2) (.cells l5) (Nat.le_refl _) (Nat.lt_succ_self _))
  have L3 := L2.trans (L2.mem.alloc (id := nx + 2) (nx' := nx + 3) (x := .cells zt) (Nat.le_refl _) (Nat.lt_succ_self _))
  have L4 := L3.trans (L3.mem.alloc (id := nx + 3) (nx' := nx + 4) (x := .cells [.int .i64 0]) (Nat.le_refl _) (Nat.lt_succ_self _))
  have L5 := L4.trans (L4.mem.alloc (id := nx + 4) (nx' := nx + 5) (x := .cells [.int .i64 0]) (Nat.le_refl _) (Nat.lt_succ_self _))
  have L6 := L5.trans (L5.mem.alloc (id := nx + 5) (nx' := nx + 6) (x := .map [] 0) (Nat.le_refl _) (Nat.lt_succ_self _))
  have L7 := L6.trans (L6.mem.alloc (id := nx + 6) (nx' := nx + 7) (x := .cells [.map (nx + 5), .int .i64 0, .int .i64 (steps : Int)]) (Nat.le_refl _) (Nat.lt_succ_self _))
  have L8 := L7.trans ((L7.mem.alloc (id := nx + 7) (nx' := nx + 8) (x := .cells [.nilptr]) (Nat.le_refl _) (Nat.lt_succ_self _)).write (.cells [.ptr (nx + 6) 0]) (id := nx + 7) (Nat.le_refl _) (L7.mem.none (Nat.le_refl _)))
  obtain ⟨σ1, hσ1⟩ : ∃ σ1, σ1 = sput (sput σ nx (.cells l)) (nx + 1) (.cells l5) := ⟨_, rfl⟩
  rw [← hσ1] at L8
  have hσn : ∀ b, nx + 2 ≤ b → σ1 b = none := fun b hb => by
    rw [hσ1]; unfold sput; rw [if_neg (by omega), if_neg (by omega)]; exact hm.none (by omega)
  have s0 : σ1 nx = some (.cells l) := by rw [hσ1]; unfold sput; rw [if_neg (by omega), if_pos rfl]
  have s1 : σ1 (nx + 1) = some (.cells l5) := by rw [hσ1]; exact sput_self _ _ _
  obtain ⟨h1', hh1⟩ : ∃ h1', h1' = hset (hset (hset (hset (hset (hset (hset h nx (.cells l)) (nx + 1) (.cells l5)) (nx + 2) (.cells zt)) (nx + 3) (.cells [.int .i64 0])) (nx + 4) (.cells [.int .i64 0])) (nx + 5) (.map [] 0)) (nx + 6) (.cells [.map (nx + 5), .int .i64 0, .int .i64 (steps : Int)]) := ⟨_, rfl⟩
  obtain ⟨h2, hh2⟩ : ∃ h2, h2 = hset (hset h1' (nx + 7) (.cells [.nilptr])) (nx + 7) (.cells [.ptr (nx + 6) 0]) := ⟨_, rfl⟩
  rw [← hh1, ← hh2] at L8
  have hput : putCells (hset h1' (nx + 7) (.cells [.nilptr])) (nx + 7) 0 1 [.ptr (nx + 6) 0] = some h2 := by
    rw [hh2]
    exact putCells_ok' rfl rfl (hro_high (by rw [hset_lo]; have := L7.lo; rw [← hh1] at this; omega)) (by rw [hget_set, if_pos rfl]) rfl
  have g7 : hget h2 (nx + 7) = some (.cells [.ptr (nx + 6) 0]) := by rw [hh2, hget_set, if_pos rfl]
  have g6 : hget h2 (nx + 6) = some (.cells [.map (nx + 5), .int .i64 0, .int .i64 (steps : Int)]) := by rw [hh2, hget_set, if_neg (by omega), hget_set, if_neg (by omega), hh1, hget_set, if_pos rfl]
  have g5 : hget h2 (nx + 5) = some (.map [] 0) := by rw [hh2, hget_set, if_neg (by omega), hget_set, if_neg (by omega), hh1, hget_set, if_neg (by omega), hget_set, if_pos rfl]
  have g4 : hget h2 (nx + 4) = some (.cells [.int .i64 0]) := by rw [hh2, hget_set, if_neg (by omega), hget_set, if_neg (by omega), hh1, hget_set, if_neg (by omega), hget_set, if_neg (by omega), hget_set, if_pos rfl]
  have g3 : hget h2 (nx + 3) = some (.cells [.int .i64 0]) := by rw [hh2, hget_set, if_neg (by omega), hget_set, if_neg (by omega), hh1, hget_set, if_neg (by omega), hget_set, if_neg (by omega), hget_set, if_neg (by omega), hget_set, if_pos rfl]
  have g2 : hget h2 (nx + 2) = some (.cells zt) := by rw [hh2, hget_set, if_neg (by omega), hget_set, if_neg (by omega), hh1, hget_set, if_neg (by omega), hget_set, if_neg (by omega), hget_set, if_neg (by omega), hget_set, if_neg (by omega), hget_set, if_pos rfl]
  have hgl := L8.mem.sat nx _ s0
  have hr1 := hr.mono L8.sle
  obtain ⟨vl, hvl, hrl⟩ := hr1.lets
  have hlen := hrl.len
  have hlo2 := L8.lo
  obtain ⟨h3, n3, es, ck, ks, f3, a1, a2, a3, a4, a5, a6, a7, a8⟩ := build_loop (r := nx + 5) (mb := nx + 6) (cb := nx + 7) (bb := nx) (steps := steps) hB M hr1 hsm s0 (hσn _ (by omega)) (by omega) (by omega) (fun n d => kThen (R7_8 n (CN n d)) (E7 n (CN n d))) M.lets 0 h2 (nx + 8) [] 0 [] 0
    (tmL (tmL (tmL (tmL (tmL tm0 [(2, .int .i64 (steps : Int)), (1, .agg l5), (0, .agg l)]) [(8, .ptr (nx + 4) 0), (7, .ptr (nx + 3) 0), (6, .ptr (nx + 2) 0), (4, .ptr (nx + 1) 0), (3, .ptr nx 0)]) [(20, .bool false)]) [(9, .ptr (nx + 7) 0)]) [(29, .int .i64 0), (28, .int .i64 (M.lets.length : Int))])
    rfl g5 .nil (fun _ => rfl) L8.mem.sat (by omega) g7 g6 rfl rfl rfl rfl
  have hs5 : σ1 (nx + 5) = none := hσn _ (by omega)
  have L9 : Later h nx m σ h3 n3 (sput σ1 (nx + 5) (.map es ck)) := by
    have hsat : Mem h3 n3 m σ1 := ⟨fun b x hb => (a4 b (fun e => by rw [e, hs5] at hb; cases hb)).trans (L8.mem.sat b x hb), fun b x hb => Nat.lt_of_lt_of_le (L8.mem.dom b x hb) a6, L8.mem.mn, by rw [a5]; exact Nat.le_trans L8.mem.lo a6, Nat.lt_of_lt_of_le L8.mem.mlt a6⟩
    have hml := hm.mlt
    exact ⟨hsat.speak a1 (by omega) (by omega), by omega, fun b hb hbm => (a4 b (by omega)).trans (L8.old b hb hbm), a5.trans L8.lo, fun b x hb => sput_le hs5 b x (L8.sle b x hb), fun b hb => by unfold sput; rw [if_neg (by omega)]; exact L8.sold b hb⟩
  have hsl : Sto.le σ1 (sput σ1 (nx + 5) (.map es ck)) := sput_le hs5
  have R : Rest M t steps h nx m σ h3 n3 (sput σ1 (nx + 5) (.map es ck)) f3 := by
    refine ⟨L9, a6, ⟨nx + 5, es, ck, rfl, sput_self _ _ _, fun name => ?_⟩, (a4 _ (by omega)).trans g7, (a4 _ (by omega)).trans g6, ⟨l5, hsl _ _ s1, ?_⟩, (a4 _ (by omega)).trans g2, (a4 _ (by omega)).trans g3, (a4 _ (by omega)).trans g4, fun b hb => ?_, a7 4 (by simp), a7 6 (by simp), a7 7 (by simp), a7 8 (by simp), a7 9 (by simp)⟩
    · rw [eqT9]
      rcases a2.find name 0 with ⟨q1, q2⟩ | ⟨t', b', o', k', q1, q2, q3⟩
      · refine ⟨.nilptr, by rw [← a3 name, q1]; exact .none, ?_⟩
        rw [wholeK_str name, q2]; rfl
      · refine ⟨.ptr b' o', by rw [← a3 name, q1]; exact .some t' b' o' (q2.mono hsl), ?_⟩
        rw [wholeK_str name, q3]; rfl
    · rw [List.drop_zero, List.take_of_length_le (by rw [rdt_len ht]; omega)]; exact (ht.mono L8.sle).mono hsl
    · unfold sput; rw [if_neg (by omega)]; exact hσn b (by omega)
  obtain ⟨h', nx', σ', cs, b1, b2, b3⟩ := rest_ok hst hm.lo R
  refine ⟨h', nx', σ', cs, b1, ?_, b3⟩
  refine Rn.of (f := 7) (l := [.agg l, .agg l5, .int .i64 (steps : Int)]) (g := fun n d => F7 n (CN n d) (.agg l) (.agg l5) (steps : Int) h nx) (fun n d => F7_eq sp7 n (CN n d) (.agg l) (.agg l5) (steps : Int) h nx) ?_
  have e1 : ltI (steps : Int) 1 = false := nlt_lit steps 1 (by omega)
  have e2 : ltI 20000 (steps : Int) = false := nlt_lit 20000 steps (by omega)
  have hbox : boxR (nx + 6) (.agg [.map (nx + 5), .int .i64 0, .int .i64 (steps : Int)]) = some (.ptr (nx + 6) 0, .cells [.map (nx + 5), .int .i64 0, .int .i64 (steps : Int)]) := rfl
  have hbld : bld [.nilmap, .int .i64 0, .int .i64 0] [(0, 1, .map (nx + 5)), (2, 1, .int .i64 (steps : Int))] = some (.agg [.map (nx + 5), .int .i64 0, .int .i64 (steps : Int)]) := rfl
  unfold F7
  repeat (first | simp -eta only [SY, ↓reduceIte, Nat.reduceEqDiff, Nat.reduceAdd, hb1, hb2, e1, e2] | simp -eta only [KY, ↓reduceIte, Nat.reduceEqDiff, R7_0_eq, R7_1_eq, R7_2_eq, R7_3_eq, R7_4_eq])
  repeat (first | simp -eta only [SY, ↓reduceIte, Nat.reduceEqDiff, Nat.reduceAdd, hbld, hbox, ← hh1] | simp -eta only [KY, ↓reduceIte, Nat.reduceEqDiff, R7_5_eq])
  repeat (first | simp -eta only [SY, ↓reduceIte, Nat.reduceEqDiff, Nat.reduceAdd, hbld, hbox, ← hh1, hput, r_loadB _ _ hgl, hvl, hlen] | simp -eta only [KY, ↓reduceIte, Nat.reduceEqDiff, R7_6_eq, R7_7_eq, R7_9_eq, R7_10_eq, R7_11_eq])
  exact Ev.loop (B := fun n d => R7_12 n (CN n d)) (tm := fun _ _ => .fn _) (a8 _ b2)
end Go.Proofs.YtaajedkbaahgfaaGreatDoor

/-
What Eval answers: more steps, fewer steps; let, application and match of a name.
-/
namespace Go.EV
open Go Go.AE
theorem evalN_pos (lets : List (Str × Tm)) {s : Nat} (hs : 1 ≤ s) (t : Tm) (env : List Fr) : OutLe (s - 1) (evalN lets s t env) := by
  obtain ⟨k, rfl⟩ : ∃ k, s = k + 1 := ⟨s - 1, by omega⟩
  show OutLe k (if fits t then bodyF lets (evalF lets k) k t env else .err 8 k)
  split
  · exact bodyF_out (evalF_out lets k) lets k t env
  · exact Nat.le_refl _
/-- an answer that is no limit, told of the evaluation -/
theorem evalT_nolim {lets : List (Str × Tm)} {t : Tm} {s n : Nat} {q : Tm} {e : Int} (h : evalT lets t s = (q, n, e)) (he : e ≠ 9) :
    (∃ v l lq, evalN lets s t [] = .ok v l ∧ shV v 20000 = some (q, lq) ∧ n = s - l ∧ e = 0) ∨ ∃ l, evalN lets s t [] = .err 8 l ∧ q = tz ∧ n = s - l ∧ e = 8 := by
  unfold evalT at h
  cases hr : evalN lets s t [] with
  | ok v l =>
    rw [hr] at h
    cases hq : shV v 20000 with
    | none => simp only [hq] at h; injection h with _ h; injection h with _ h; exact absurd h.symm he
    | some p =>
      obtain ⟨p, lp⟩ := p
      simp only [hq] at h
      injection h with h1 h; injection h with h2 h3
      exact .inl ⟨v, l, lp, rfl, by rw [← h1, hq], h2.symm, h3.symm⟩
  | err e' l =>
    rw [hr] at h
    simp only at h
    injection h with h1 h; injection h with h2 h3
    rcases evalN_err lets hr with rfl | ⟨rfl, _⟩
    · exact .inr ⟨l, rfl, h1.symm, h2.symm, h3.symm⟩
    · exact absurd h3.symm he
theorem evalT_lim {lets : List (Str × Tm)} {t : Tm} {s n : Nat} {q : Tm} (h : evalT lets t s = (q, n, 9)) : q = tz ∧ n ≤ s := by
  unfold evalT at h
  cases hr : evalN lets s t [] with
  | ok v l =>
    rw [hr] at h
    cases hq : shV v 20000 with
    | none => simp only [hq] at h; injection h with h1 h; injection h with h2 h; exact ⟨h1.symm, by omega⟩
    | some p =>
      obtain ⟨p, lp⟩ := p
      simp only [hq] at h
      injection h with h1 h; injection h with h2 h3
      cases h3
  | err e' l =>
    rw [hr] at h
    simp only at h
    injection h with h1 h; injection h with h2 h3
    exact ⟨h1.symm, by omega⟩
theorem evalT_ok {lets : List (Str × Tm)} {t : Tm} {s : Nat} {v : Vl} {l lq : Nat} {q : Tm} (h : evalN lets s t [] = .ok v l) (hq : shV v 20000 = some (q, lq)) : evalT lets t s = (q, s - l, 0) := by
  unfold evalT
  rw [h]; simp only [hq]
theorem evalT_err {lets : List (Str × Tm)} {t : Tm} {s l : Nat} {e : Int} (h : evalN lets s t [] = .err e l) : evalT lets t s = (tz, s - l, e) := by
  unfold evalT
  rw [h]
/-- as many steps as were taken are enough, more change nothing, fewer are too few -/
theorem evalT_more {lets : List (Str × Tm)} {t : Tm} {s n : Nat} {q : Tm} {e : Int} (hs : 1 ≤ s) (h : evalT lets t s = (q, n, e)) (he : e ≠ 9) :
    1 ≤ n ∧ n ≤ s ∧ (∀ c, evalT lets t (s + c) = (q, n, e)) ∧ evalT lets t n = (q, n, e) ∧ (2 ≤ n → (evalT lets t (n - 1)).2.2 = 9) := by
  rcases evalT_nolim h he with ⟨v, l, lq, hr, hq, hn, he'⟩ | ⟨l, hr, hq, hn, he'⟩
  · have hno : NoLim (evalN lets s t []) l := .inl ⟨v, hr⟩
    have hpos := evalN_pos lets hs t []
    rw [hr] at hpos
    change l ≤ s - 1 at hpos
    obtain ⟨hle, hsame⟩ := evalN_same lets hno
    refine ⟨by omega, by omega, fun c => ?_, ?_, fun h2 => ?_⟩
    · have := evalN_more lets hno c
      rw [hr] at this
      rw [evalT_ok this hq, he', hn]
      congr 2; omega
    · rw [hr] at hsame
      rw [hn, evalT_ok hsame hq, he']
      congr 2
    · rw [hn] at h2 ⊢
      rw [evalT_err (evalN_few lets hno (s := s - l - 1) (by omega))]
  · have hno : NoLim (evalN lets s t []) l := .inr hr
    have hpos := evalN_pos lets hs t []
    rw [hr] at hpos
    change l ≤ s - 1 at hpos
    obtain ⟨hle, hsame⟩ := evalN_same lets hno
    refine ⟨by omega, by omega, fun c => ?_, ?_, fun h2 => ?_⟩
    · have := evalN_more lets hno c
      rw [hr] at this
      rw [evalT_err this, he', hn, hq]
      congr 2; omega
    · rw [hr] at hsame
      rw [hn, evalT_err hsame, he', hq]
      congr 2
    · rw [hn] at h2 ⊢
      rw [evalT_err (evalN_few lets hno (s := s - l - 1) (by omega))]
/-! a name, and what binds it -/
def nq : Str := (1, 113)
def xT : Tm := .mk 21 (0, 0) nq 0 []
def letT (t : Tm) : Tm := .mk 28 (0, 0) nq 0 [t, xT]
def funT : Tm := .mk 26 (0, 0) nq 0 [xT]
def appT (t : Tm) : Tm := .mk 27 (0, 0) (0, 0) 0 [funT, t]
def patT : Tm := .mk 12 (0, 0) nq 0 []
def matT (t : Tm) : Tm := .mk 29 (0, 0) (0, 0) 0 [t, patT, xT]
theorem xT_eval (lets : List (Str × Tm)) (k l : Nat) (v : Vl) (env : List Fr) : evalF lets (k + 1) (l + 1) xT (Fr.mk nq v none :: env) = .ok v l := rfl
theorem funT_eval (lets : List (Str × Tm)) (k l : Nat) : evalF lets (k + 1) (l + 1) funT [] = .ok (.mk 11 (0, 0) (0, 0) 0 [] (some funT) []) l := rfl
theorem letT_eval (lets : List (Str × Tm)) (s : Nat) (t : Tm) : evalN lets (s + 1) (letT t) [] = match evalF lets s s t [] with | .err e l => .err e l | .ok v l => evalF lets s l xT [Fr.mk nq v none] := rfl
theorem matT_eval (lets : List (Str × Tm)) (s : Nat) (t : Tm) : evalN lets (s + 1) (matT t) [] = match evalF lets s s t [] with | .err e l => .err e l | .ok v l => evalF lets s l xT [Fr.mk nq v none] := rfl
theorem appT_eval (lets : List (Str × Tm)) (s : Nat) (t : Tm) : evalN lets (s + 1 + 1) (appT t) [] = match evalF lets (s + 1) s t [] with | .err e l => .err e l | .ok v l => evalF lets (s + 1) l xT [Fr.mk nq v none] := rfl
theorem evalT_lets {lets : List (Str × Tm)} {t : Tm} {s n : Nat} {q : Tm} {e : Int} (h : evalT lets t s = (q, n, e)) (he : e ≠ 9) :
    ∃ i j k, evalT lets (letT t) (s + 9) = (q, i, e) ∧ evalT lets (appT t) (s + 9) = (q, j, e) ∧ evalT lets (matT t) (s + 9) = (q, k, e) ∧ (e = 0 → i = n + 2 ∧ j = n + 3 ∧ k = n + 2) := by
  rcases evalT_nolim h he with ⟨v, l, lq, hr, hq, hn, he'⟩ | ⟨l, hr, hq, hn, he'⟩
  · have hno : NoLim (evalN lets s t []) l := .inl ⟨v, hr⟩
    obtain ⟨hle, _⟩ := evalN_same lets hno
    have h8 := evalN_more lets hno 8
    have h7 := evalN_more lets hno 7
    rw [hr] at h7 h8
    have e1 : evalN lets (s + 9) (letT t) [] = .ok v (l + 7) := by
      rw [show s + 9 = (s + 8) + 1 from rfl, letT_eval]
      change evalF lets (s + 8) (s + 8) t [] = _ at h8
      rw [h8]; rfl
    have e2 : evalN lets (s + 9) (matT t) [] = .ok v (l + 7) := by
      rw [show s + 9 = (s + 8) + 1 from rfl, matT_eval]
      change evalF lets (s + 8) (s + 8) t [] = _ at h8
      rw [h8]; rfl
    have e3 : evalN lets (s + 9) (appT t) [] = .ok v (l + 6) := by
      rw [show s + 9 = (s + 7) + 1 + 1 from rfl, appT_eval, evalN_fuel lets (by omega), h7]; rfl
    refine ⟨_, _, _, by rw [evalT_ok e1 hq, he'], by rw [evalT_ok e3 hq, he'], by rw [evalT_ok e2 hq, he'], fun _ => ⟨by omega, by omega, by omega⟩⟩
  · have hno : NoLim (evalN lets s t []) l := .inr hr
    have h8 := evalN_more lets hno 8
    have h7 := evalN_more lets hno 7
    rw [hr] at h7 h8
    have e1 : evalN lets (s + 9) (letT t) [] = .err 8 (l + 8) := by
      rw [show s + 9 = (s + 8) + 1 from rfl, letT_eval]
      change evalF lets (s + 8) (s + 8) t [] = _ at h8
      rw [h8]; rfl
    have e2 : evalN lets (s + 9) (matT t) [] = .err 8 (l + 8) := by
      rw [show s + 9 = (s + 8) + 1 from rfl, matT_eval]
      change evalF lets (s + 8) (s + 8) t [] = _ at h8
      rw [h8]; rfl
    have e3 : evalN lets (s + 9) (appT t) [] = .err 8 (l + 7) := by
      rw [show s + 9 = (s + 7) + 1 + 1 from rfl, appT_eval, evalN_fuel lets (by omega), h7]; rfl
    refine ⟨_, _, _, by rw [evalT_err e1, he', hq], by rw [evalT_err e3, he', hq], by rw [evalT_err e2, he', hq], fun h0 => by rw [he'] at h0; cases h0⟩
end Go.EV

/-
Residual of function 8
-/
namespace Go.Proofs.YtaajedkbaahgfaaGreatDoor
open Go Go.AE
set_option maxRecDepth 100000
/-! touchstone/touchstonelaw01.No -/
noncomputable def C8 : Code := Tryz.f8.body.getD .skip
noncomputable def E8 (n : Nat) (call : CallF) : KX CRes := kEnd Tryz.prog true locOfF n call (mapL (rsVar Tryz.prog 3) Tryz.f8.results.toList)
noncomputable def F8 (n : Nat) (call : CallF) (a0 : AV) (h : Heap) (nx : Nat) : Option CRes :=
  some (.ret a0 h nx)
theorem F8_eq {sp : Specs} (hsp : sp 8 = none) (n : Nat) (call : CallF) (a0 : AV) (h : Heap) (nx : Nat) : callS Tryz.prog true sp locOfF n call 8 [a0] h nx = F8 n call a0 h nx :=
  (call_eq2 Tryz.func8 (c := C8) (N := 4) (dp := 3) (L := 8) (tm := (.fn (tmL tm0 [(0, a0)]))) (by kernel_rfl) (by kernel_rfl) (by kernel_rfl) (by kernel_rfl) (by kernel_rfl) (by kernel_rfl) hsp n call h nx).trans (by kernel_rfl)
theorem E8_normal (n : Nat) (call : CallF) (f : Nat → Option AV) (h : Heap) (nx : Nat) : E8 n call h nx .normal (.fn f) [] = retL [(f 2)] h nx := by kernel_rfl
theorem E8_ret (n : Nat) (call : CallF) (f : Nat → Option AV) (h : Heap) (nx : Nat) : E8 n call h nx .ret (.fn f) [] = retL [(f 2)] h nx := by kernel_rfl
theorem E8_pan (n : Nat) (call : CallF) (v : AV) (tm : TM) (h : Heap) (nx : Nat) : E8 n call h nx (.pan v) tm [] = some (.pan v h nx) := by kernel_rfl
end Go.Proofs.YtaajedkbaahgfaaGreatDoor

/-
Residual of function 3
-/
namespace Go.Proofs.YtaajedkbaahgfaaGreatDoor
open Go Go.AE
set_option maxRecDepth 100000
/-! touchstone/touchstonelaw26.EvalMore -/
noncomputable def C3 : Code := Tryz.f3.body.getD .skip
noncomputable def E3 (n : Nat) (call : CallF) : KX CRes := kEnd Tryz.prog true locOfF n call (mapL (rsVar Tryz.prog 7) Tryz.f3.results.toList)
noncomputable def F3 (n : Nat) (call : CallF) (a0 : AV) (a1 : AV) (z2 : Int) (z3 : Int) (h : Heap) (nx : Nat) : Option CRes :=
  bd (boxR nx a0) fun r1 =>
  letH (hset h nx r1.2) (Nat.succ nx) fun h2 n3 =>
  bd (boxR n3 a1) fun r4 =>
  letH (hset h2 n3 r4.2) (Nat.succ n3) fun h5 n6 =>
  bd (ldA 5 h5 r1.1) fun v7 =>
  bd (ldA 5 h5 r4.1) fun v8 =>
  bd (clR call 5 [v7, v8] h5 n6) (ares (fun v9 h10 n11 =>
  bd (unNot v9) fun v12 =>
  onBool v12 fun b13 => sl b13
  (bd (clR call 6 [] h10 n11) (ares (fun v14 h15 n16 =>
  some (.ret v14 h15 n16)) (fun v17 h18 n19 => some (.pan v17 h18 n19))))
  (bd (binV .rem (eqT Tryz.prog 8 3) true (!(Tryz.prog.eqGuardType Tryz.prog.depth 3)) (.int .i64 300) (.int .i64 z2)) fun v20 =>
  bd (binV .add (eqT Tryz.prog 8 3) true (!(Tryz.prog.eqGuardType Tryz.prog.depth 3)) (.int .i64 300) v20) fun v21 =>
  bd (binV .rem (eqT Tryz.prog 8 3) true (!(Tryz.prog.eqGuardType Tryz.prog.depth 3)) (.int .i64 300) v21) fun v22 =>
  bd (binV .add (eqT Tryz.prog 8 3) true (!(Tryz.prog.eqGuardType Tryz.prog.depth 3)) v22 (.int .i64 1)) fun v23 =>
  bd (binV .rem (eqT Tryz.prog 8 3) true (!(Tryz.prog.eqGuardType Tryz.prog.depth 3)) (.int .i64 300) (.int .i64 z3)) fun v24 =>
  bd (binV .add (eqT Tryz.prog 8 3) true (!(Tryz.prog.eqGuardType Tryz.prog.depth 3)) (.int .i64 300) v24) fun v25 =>
  bd (binV .rem (eqT Tryz.prog 8 3) true (!(Tryz.prog.eqGuardType Tryz.prog.depth 3)) (.int .i64 300) v25) fun v26 =>
  bd (ldA 5 h10 r1.1) fun v27 =>
  bd (ldA 5 h10 r4.1) fun v28 =>
  bd (clR call 7 [v27, v28, v23] h10 n11) (ares (fun v29 h30 n31 =>
  bd (extV v29 0) fun v32 =>
  bd (extV v29 1) fun v33 =>
  bd (extV v29 2) fun v34 =>
  letH (hset h30 n31 (.cells [(.int .i64 0), (.str 0 0), (.str 0 0), (.int .i64 0), .nilslice])) (Nat.succ n31) fun h35 n36 =>
  bd (stR 5 h35 n36 (.ptr n31 0) v32) (ares (fun v37 h38 n39 =>
  bd (clR call 8 [v34] h38 n39) (ares (fun v40 h41 n42 =>
  bd (binV .eql (eqT Tryz.prog 8 3) true (!(Tryz.prog.eqGuardType Tryz.prog.depth 3)) (.int .i64 9) v40) fun v43 =>
  onBool v43 fun b44 => sl b44
  (bd (loadB (pkAgg 5) h41 n31 0) fun v45 =>
  bd (clR call 9 [v45, (.agg [(.int .i64 0), (.str 0 0), (.str 0 0), (.int .i64 0), .nilslice])] h41 n42) (ares (fun v46 h47 n48 =>
  bd (wantV true v46) fun b49 => bd (sl b49 (some v33) (some (.tuple []))) fun v50 =>
  bd (wantV true v46) fun b51 => bd (sl b51 (some v23) (some (.tuple []))) fun v52 =>
  bd (wantV true v46) fun b53 => bd (sl b53 ((binV .leq (eqT Tryz.prog 8 3) false (!(Tryz.prog.eqGuardType Tryz.prog.depth 3)) v52 v50)) (some (.tuple []))) fun v54 =>
  bd (pickV v46 v54 (.bool false)) fun v55 =>
  bd (wantV true v55) fun b56 => bd (sl b56 (clR call 6 [] h47 n48) (some (.val (.tuple []) h47 n48))) (ares (fun v57 h58 n59 =>
  bd (pickV v55 v57 (.bool false)) fun v60 =>
  some (.ret v60 h58 n59)) (fun v61 h62 n63 => some (.pan v61 h62 n63)))) (fun v64 h65 n66 => some (.pan v64 h65 n66))))
  (bd (ldA 5 h41 r1.1) fun v67 =>
  bd (ldA 5 h41 r4.1) fun v68 =>
  bd (binV .add (eqT Tryz.prog 8 3) false (!(Tryz.prog.eqGuardType Tryz.prog.depth 3)) v26 v23) fun v69 =>
  bd (clR call 7 [v67, v68, v69] h41 n42) (ares (fun v70 h71 n72 =>
  bd (extV v70 0) fun v73 =>
  bd (extV v70 1) fun v74 =>
  bd (extV v70 2) fun v75 =>
  letH (hset h71 n72 (.cells [(.int .i64 0), (.str 0 0), (.str 0 0), (.int .i64 0), .nilslice])) (Nat.succ n72) fun h76 n77 =>
  bd (stR 5 h76 n77 (.ptr n72 0) v73) (ares (fun v78 h79 n80 =>
  bd (ldA 5 h79 r1.1) fun v81 =>
  bd (ldA 5 h79 r4.1) fun v82 =>
  bd (clR call 7 [v81, v82, v33] h79 n80) (ares (fun v83 h84 n85 =>
  bd (extV v83 0) fun v86 =>
  bd (extV v83 1) fun v87 =>
  bd (extV v83 2) fun v88 =>
  letH (hset h84 n85 (.cells [(.int .i64 0), (.str 0 0), (.str 0 0), (.int .i64 0), .nilslice])) (Nat.succ n85) fun h89 n90 =>
  bd (stR 5 h89 n90 (.ptr n85 0) v86) (ares (fun v91 h92 n93 =>
  bd (clR call 8 [v34] h92 n93) (ares (fun v94 h95 n96 =>
  bd (clR call 8 [v75] h95 n96) (ares (fun v97 h98 n99 =>
  bd (binV .neq (eqT Tryz.prog 8 3) false (!(Tryz.prog.eqGuardType Tryz.prog.depth 3)) v97 v94) fun v100 =>
  bd (wantV false v100) fun b101 => bd (sl b101 (some v34) (some (.tuple []))) fun v102 =>
  bd (wantV false v100) fun b103 => bd (sl b103 (clR call 8 [v102] h98 n99) (some (.val (.tuple []) h98 n99))) (ares (fun v104 h105 n106 =>
  bd (wantV false v100) fun b107 => bd (sl b107 (some v88) (some (.tuple []))) fun v108 =>
  bd (wantV false v100) fun b109 => bd (sl b109 (clR call 8 [v108] h105 n106) (some (.val (.tuple []) h105 n106))) (ares (fun v110 h111 n112 =>
  bd (wantV false v100) fun b113 => bd (sl b113 ((binV .neq (eqT Tryz.prog 8 3) false (!(Tryz.prog.eqGuardType Tryz.prog.depth 3)) v110 v104)) (some (.tuple []))) fun v114 =>
  bd (pickV v100 (.bool true) v114) fun v115 =>
  bd (wantV false v115) fun b116 => bd (sl b116 ((loadB (pkAgg 5) h111 n31 0)) (some (.tuple []))) fun v117 =>
  bd (wantV false v115) fun b118 => bd (sl b118 ((loadB (pkAgg 5) h111 n72 0)) (some (.tuple []))) fun v119 =>
  bd (wantV false v115) fun b120 => bd (sl b120 (clR call 9 [v117, v119] h111 n112) (some (.val (.tuple []) h111 n112))) (ares (fun v121 h122 n123 =>
  bd (wantV false v115) fun b124 => bd (sl b124 ((unNot v121)) (some (.tuple []))) fun v125 =>
  bd (pickV v115 (.bool true) v125) fun v126 =>
  bd (wantV false v126) fun b127 => bd (sl b127 ((loadB (pkAgg 5) h122 n31 0)) (some (.tuple []))) fun v128 =>
  bd (wantV false v126) fun b129 => bd (sl b129 ((loadB (pkAgg 5) h122 n85 0)) (some (.tuple []))) fun v130 =>
  bd (wantV false v126) fun b131 => bd (sl b131 (clR call 9 [v128, v130] h122 n123) (some (.val (.tuple []) h122 n123))) (ares (fun v132 h133 n134 =>
  bd (wantV false v126) fun b135 => bd (sl b135 ((unNot v132)) (some (.tuple []))) fun v136 =>
  bd (pickV v126 (.bool true) v136) fun v137 =>
  bd (wantV false v137) fun b138 => bd (sl b138 (some v33) (some (.tuple []))) fun v139 =>
  bd (wantV false v137) fun b140 => bd (sl b140 (some v74) (some (.tuple []))) fun v141 =>
  bd (wantV false v137) fun b142 => bd (sl b142 ((binV .neq (eqT Tryz.prog 8 3) false (!(Tryz.prog.eqGuardType Tryz.prog.depth 3)) v141 v139)) (some (.tuple []))) fun v143 =>
  bd (pickV v137 (.bool true) v143) fun v144 =>
  bd (wantV false v144) fun b145 => bd (sl b145 (some v33) (some (.tuple []))) fun v146 =>
  bd (wantV false v144) fun b147 => bd (sl b147 (some v87) (some (.tuple []))) fun v148 =>
  bd (wantV false v144) fun b149 => bd (sl b149 ((binV .neq (eqT Tryz.prog 8 3) false (!(Tryz.prog.eqGuardType Tryz.prog.depth 3)) v148 v146)) (some (.tuple []))) fun v150 =>
  bd (pickV v144 (.bool true) v150) fun v151 =>
  onBool v151 fun b152 => sl b152
  (some (.ret (.bool false) h133 n134))
  (bd (binV .gtr (eqT Tryz.prog 8 3) true (!(Tryz.prog.eqGuardType Tryz.prog.depth 3)) (.int .i64 1) v33) fun v153 =>
  onBool v153 fun b154 => sl b154
  (bd (ldA 5 h133 r1.1) fun v155 =>
  bd (ldA 5 h133 r4.1) fun v156 =>
  bd (binV .sub (eqT Tryz.prog 8 3) true (!(Tryz.prog.eqGuardType Tryz.prog.depth 3)) (.int .i64 1) v33) fun v157 =>
  bd (clR call 7 [v155, v156, v157] h133 n134) (ares (fun v158 h159 n160 =>
  bd (extV v158 0) fun v161 =>
  bd (extV v158 1) fun v162 =>
  bd (extV v158 2) fun v163 =>
  letH (hset h159 n160 (.cells [(.int .i64 0), (.str 0 0), (.str 0 0), (.int .i64 0), .nilslice])) (Nat.succ n160) fun h164 n165 =>
  bd (stR 5 h164 n165 (.ptr n160 0) v161) (ares (fun v166 h167 n168 =>
  bd (clR call 8 [v163] h167 n168) (ares (fun v169 h170 n171 =>
  bd (binV .eql (eqT Tryz.prog 8 3) true (!(Tryz.prog.eqGuardType Tryz.prog.depth 3)) (.int .i64 9) v169) fun v172 =>
  bd (wantV true v172) fun b173 => bd (sl b173 (clR call 6 [] h170 n171) (some (.val (.tuple []) h170 n171))) (ares (fun v174 h175 n176 =>
  bd (pickV v172 v174 (.bool false)) fun v177 =>
  some (.ret v177 h175 n176)) (fun v178 h179 n180 => some (.pan v178 h179 n180)))) (fun v181 h182 n183 => some (.pan v181 h182 n183)))) (fun v184 h185 n186 => some (.pan v184 h185 n186)))) (fun v187 h188 n189 => some (.pan v187 h188 n189))))
  (bd (clR call 6 [] h133 n134) (ares (fun v190 h191 n192 =>
  some (.ret v190 h191 n192)) (fun v193 h194 n195 => some (.pan v193 h194 n195)))))) (fun v196 h197 n198 => some (.pan v196 h197 n198)))) (fun v199 h200 n201 => some (.pan v199 h200 n201)))) (fun v202 h203 n204 => some (.pan v202 h203 n204)))) (fun v205 h206 n207 => some (.pan v205 h206 n207)))) (fun v208 h209 n210 => some (.pan v208 h209 n210)))) (fun v211 h212 n213 => some (.pan v211 h212 n213)))) (fun v214 h215 n216 => some (.pan v214 h215 n216)))) (fun v217 h218 n219 => some (.pan v217 h218 n219)))) (fun v220 h221 n222 => some (.pan v220 h221 n222)))) (fun v223 h224 n225 => some (.pan v223 h224 n225))))) (fun v226 h227 n228 => some (.pan v226 h227 n228)))) (fun v229 h230 n231 => some (.pan v229 h230 n231)))) (fun v232 h233 n234 => some (.pan v232 h233 n234))))) (fun v235 h236 n237 => some (.pan v235 h236 n237)))
theorem F3_eq {sp : Specs} (hsp : sp 3 = none) (n : Nat) (call : CallF) (a0 : AV) (a1 : AV) (z2 : Int) (z3 : Int) (h : Heap) (nx : Nat) : callS Tryz.prog true sp locOfF n call 3 [a0, a1, (.int .i64 z2), (.int .i64 z3)] h nx = F3 n call a0 a1 z2 z3 h nx :=
  (call_eq2 Tryz.func3 (c := C3) (N := 127) (dp := 7) (L := 170139560867700939598053352751391047680) (tm := (.fn (tmL tm0 [(3, (.int .i64 z3)), (2, (.int .i64 z2)), (1, a1), (0, a0)]))) (by kernel_rfl) (by kernel_rfl) (by kernel_rfl) (by kernel_rfl) (by kernel_rfl) (by kernel_rfl) hsp n call h nx).trans (by kernel_rfl)
theorem E3_normal (n : Nat) (call : CallF) (f : Nat → Option AV) (h : Heap) (nx : Nat) : E3 n call h nx .normal (.fn f) [] = retL [(f 8)] h nx := by kernel_rfl
theorem E3_ret (n : Nat) (call : CallF) (f : Nat → Option AV) (h : Heap) (nx : Nat) : E3 n call h nx .ret (.fn f) [] = retL [(f 8)] h nx := by kernel_rfl
theorem E3_pan (n : Nat) (call : CallF) (v : AV) (tm : TM) (h : Heap) (nx : Nat) : E3 n call h nx (.pan v) tm [] = some (.pan v h nx) := by kernel_rfl
end Go.Proofs.YtaajedkbaahgfaaGreatDoor
