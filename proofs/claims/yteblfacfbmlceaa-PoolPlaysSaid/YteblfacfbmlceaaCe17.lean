/-
  Contracts of the reference's Move, Set, Give, and of 'told' (layer 17).
-/
import Derived.Test.YteblfacfbmlceaaVexGG
import Derived.Test.YteblfacfbmlceaaTab17
import Derived.Test.YteblfacfbmlceaaXa17
import Derived.Test.YteblfacfbmlceaaCa17
import Derived.Test.YteblfacfbmlceaaCb17
import Derived.Test.YteblfacfbmlceaaXc17
import Derived.Test.YteblfacfbmlceaaCc17
import Derived.Test.YteblfacfbmlceaaXd17
import Derived.Test.YteblfacfbmlceaaCd17
set_option linter.unusedVariables false
set_option linter.unusedSimpArgs false
namespace Go.Vex
open Go.Proofs

theorem codeC_none {C : List B3} {id : Int} (h : cfind C id = none) (who : List UInt8) : codeC C id who = 5 := by unfold codeC; rw [h]
theorem codeC_some {C : List B3} {id : Int} {x : B3} (h : cfind C id = some x) (who : List UInt8) : codeC C id who = if x.2.1 = who then 0 else 3 := by unfold codeC; rw [h]

theorem cfind_id {C : List B3} {id : Int} {x : B3} (h : cfind C id = some x) : x ∈ C ∧ id = x.1 := by
  unfold cfind at h
  exact ⟨List.mem_of_find?_eq_some h, by simpa using List.find?_some h⟩

theorem rmove_spec {h : Hp} {F : List Nat} {r : Nat} {most last id : Int} {who to : List UInt8} {C : List B3} (hw : h.wf) (pr : RefP r most last C h F) (hnd : (C.map Prod.fst).Nodup) (hC : C.length ≤ 4096) :
    XCalls Try.prog 24 [.ptr (some (r, 0)), .int .u64 id, .str who, .str to] h fun v h' => Upd h h' F F ∧ v = .int .i64 (if to = [] then 2 else codeC C id who) ∧
      RefP r most last (if to ≠ [] ∧ codeC C id who = 0 then cset C id (fun x => (x.1, to, x.2.2)) else C) h' F := by
  refine XCalls.cps fun K hK => ?_
  apply x24; unfold X24
  refine (at_spec pr hC).mono ?_
  rintro _ g ⟨rfl, z, rfl, hz⟩
  refine ⟨z, rfl, ?_⟩
  by_cases c : to = []
  · have : (to == []) = true := by simp [c]
    simp only [this, cond_true]
    refine hK _ _ ⟨Upd.refl g F, by rw [if_pos c], ?_⟩
    rw [if_neg (fun h => h.1 c)]; exact pr
  have b1 : (to == []) = false := by simp [c]
  simp only [b1, cond_false]
  rcases hz with ⟨rfl, hf⟩ | ⟨k, x, rfl, hk, hf⟩
  · have : ltI (-1) 0 = true := by decide
    rw [this]
    refine hK _ _ ⟨Upd.refl g F, by rw [if_neg c, codeC_none hf], ?_⟩
    rw [if_neg (fun h => by rw [codeC_none hf] at h; omega)]; exact pr
  have hk0 : ltI (↑k) 0 = false := by rw [ltI_eq, decide_eq_false_iff_not]; omega
  rw [hk0]
  obtain ⟨_, rfl⟩ := cfind_id hf
  have hkl := (List.getElem?_eq_some_iff.1 hk).1
  obtain ⟨q, o, f, g', p1, p2, p3, p4, p5⟩ := pr.put hw hk x
  simp only [cond_false]
  refine ⟨some (q, o), C.length, f, p1, ⟨by omega, by omega⟩, x.1, x.2.1, x.2.2, p2, ?_⟩
  rintro h2 rfl
  refine ⟨_, Hp.st_of Hp.get_alloc_self (Nat.le_of_ble_eq_true rfl), x.2.1, by rw [Hp.ld_of Hp.get_set_self]; rfl, ?_⟩
  generalize hg3 : (g.alloc (.row [.int .u64 0, .str [], .str []] 1 false)).set g.next _ = g3
  have hrow : g3.get g.next = some (.row (b3row x) 1 false) := by rw [← hg3]; exact Hp.get_set_self
  have hs3 : ∀ j, j < g.next → g3.get j = g.get j := fun j hj => by rw [← hg3, Hp.get_set_ne (by omega), Hp.get_alloc_ne (by omega)]
  have hn3 : g3.next = g.next + 1 := by rw [← hg3, Hp.set_next, Hp.alloc_next]
  have wf3 : g3.wf := by rw [← hg3]; exact hw.alloc.set (by simp [Hp.alloc_next])
  clear hg3
  have pr3 := (RefP.rep _ _ _ _).stay hw pr hs3
  simp only [codeC_some hf] at hK
  by_cases e : x.2.1 = who
  · have b2 : (x.2.1 == who) = true := by simp [e]
    simp only [b2, Bool.not_true, cond_false]
    refine ⟨_, Hp.st_of hrow (Nat.le_of_ble_eq_true rfl), ?_⟩
    generalize hg4 : g3.set g.next _ = g4
    have hrow4 : g4.get g.next = some (.row (b3row (x.1, to, x.2.2)) 1 false) := by rw [← hg4]; exact Hp.get_set_self
    have hs4 : ∀ j, j < g.next → g4.get j = g.get j := fun j hj => by rw [← hg4, Hp.get_set_ne (by omega)]; exact hs3 j hj
    have hn4 : g4.next = g.next + 1 := by rw [← hg4, Hp.set_next, hn3]
    have wf4 : g4.wf := by rw [← hg4]; exact wf3.set (by omega)
    clear hg4
    have pr4 := (RefP.rep _ _ _ _).stay hw pr hs4
    obtain ⟨q, o, f, g5, p1, p2, p3, p4, p5⟩ := pr4.put wf4 hk (x.1, to, x.2.2)
    refine ⟨some (q, o), C.length, f, p1, x.1, to, x.2.2, by rw [Hp.lda_of hrow4 (Nat.le_of_ble_eq_true rfl)]; rfl, ⟨by omega, by omega⟩, g5, p3, ?_⟩
    refine hK _ _ ⟨(Upd.quiet F hs4 (by omega)).trans p5, by rw [if_neg c, if_pos e], ?_⟩
    rw [if_pos ⟨c, if_pos e⟩, cset_at hnd hk]
    exact p4
  · have b2 : (x.2.1 == who) = false := by simp [e]
    simp only [b2, Bool.not_false, cond_true]
    refine hK _ _ ⟨Upd.quiet F hs3 (by omega), by rw [if_neg c, if_neg e], ?_⟩
    rw [if_neg (fun h => by rw [if_neg e] at h; omega)]; exact pr3

theorem rset_spec {h : Hp} {F : List Nat} {r : Nat} {most last id : Int} {who text : List UInt8} {C : List B3} (hw : h.wf) (pr : RefP r most last C h F) (hnd : (C.map Prod.fst).Nodup) (hC : C.length ≤ 4096) :
    XCalls Try.prog 25 [.ptr (some (r, 0)), .int .u64 id, .str who, .str text] h fun v h' => Upd h h' F F ∧ v = .int .i64 (if codeC C id who ≠ 0 then codeC C id who else if 65549 < text.length then 4 else 0) ∧
      RefP r most last (if codeC C id who = 0 ∧ text.length ≤ 65549 then cset C id (fun x => (x.1, x.2.1, text)) else C) h' F := by
  refine XCalls.cps fun K hK => ?_
  apply x25; unfold X25
  refine (at_spec pr hC).mono ?_
  rintro _ g ⟨rfl, z, rfl, hz⟩
  refine ⟨z, rfl, ?_⟩
  rcases hz with ⟨rfl, hf⟩ | ⟨k, x, rfl, hk, hf⟩
  · have : ltI (-1) 0 = true := by decide
    rw [this]
    refine hK _ _ ⟨Upd.refl g F, by rw [codeC_none hf]; rfl, ?_⟩
    rw [if_neg (fun h => by rw [codeC_none hf] at h; omega)]; exact pr
  have hk0 : ltI (↑k) 0 = false := by rw [ltI_eq, decide_eq_false_iff_not]; omega
  rw [hk0]
  obtain ⟨_, rfl⟩ := cfind_id hf
  have hkl := (List.getElem?_eq_some_iff.1 hk).1
  obtain ⟨q, o, f, g', p1, p2, p3, p4, p5⟩ := pr.put hw hk x
  simp only [cond_false]
  refine ⟨some (q, o), C.length, f, p1, ⟨by omega, by omega⟩, x.1, x.2.1, x.2.2, p2, ?_⟩
  rintro h2 rfl
  refine ⟨_, Hp.st_of Hp.get_alloc_self (Nat.le_of_ble_eq_true rfl), x.2.1, by rw [Hp.ld_of Hp.get_set_self]; rfl, ?_⟩
  generalize hg3 : (g.alloc (.row [.int .u64 0, .str [], .str []] 1 false)).set g.next _ = g3
  have hrow : g3.get g.next = some (.row (b3row x) 1 false) := by rw [← hg3]; exact Hp.get_set_self
  have hs3 : ∀ j, j < g.next → g3.get j = g.get j := fun j hj => by rw [← hg3, Hp.get_set_ne (by omega), Hp.get_alloc_ne (by omega)]
  have hn3 : g3.next = g.next + 1 := by rw [← hg3, Hp.set_next, Hp.alloc_next]
  have wf3 : g3.wf := by rw [← hg3]; exact hw.alloc.set (by simp [Hp.alloc_next])
  clear hg3
  have pr3 := (RefP.rep _ _ _ _).stay hw pr hs3
  simp only [codeC_some hf] at hK
  by_cases e : x.2.1 = who
  · have b2 : (x.2.1 == who) = true := by simp [e]
    simp only [b2, Bool.not_true, cond_false, if_pos e]
    by_cases hl : 65549 < text.length
    · have : ltI 65549 (↑text.length) = true := by rw [ltI_eq, decide_eq_true_eq]; omega
      simp only [this, cond_true]
      refine hK _ _ ⟨Upd.quiet F hs3 (by omega), by simp [e, hl], ?_⟩
      rw [if_neg (fun h => by have := h.2; omega)]; exact pr3
    have b3 : ltI 65549 (↑text.length) = false := by rw [ltI_eq, decide_eq_false_iff_not]; omega
    simp only [b3, cond_false]
    refine ⟨_, Hp.st_of hrow (Nat.le_of_ble_eq_true rfl), ?_⟩
    generalize hg4 : g3.set g.next _ = g4
    have hrow4 : g4.get g.next = some (.row (b3row (x.1, x.2.1, text)) 1 false) := by rw [← hg4]; exact Hp.get_set_self
    have hs4 : ∀ j, j < g.next → g4.get j = g.get j := fun j hj => by rw [← hg4, Hp.get_set_ne (by omega)]; exact hs3 j hj
    have hn4 : g4.next = g.next + 1 := by rw [← hg4, Hp.set_next, hn3]
    have wf4 : g4.wf := by rw [← hg4]; exact wf3.set (by omega)
    clear hg4
    have pr4 := (RefP.rep _ _ _ _).stay hw pr hs4
    obtain ⟨q, o, f, g5, p1, p2, p3, p4, p5⟩ := pr4.put wf4 hk (x.1, x.2.1, text)
    refine ⟨some (q, o), C.length, f, p1, x.1, x.2.1, text, by rw [Hp.lda_of hrow4 (Nat.le_of_ble_eq_true rfl)]; rfl, ⟨by omega, by omega⟩, g5, p3, ?_⟩
    refine hK _ _ ⟨(Upd.quiet F hs4 (by omega)).trans p5, by simp [e, hl], ?_⟩
    rw [if_pos ⟨if_pos e, by omega⟩, cset_at hnd hk]
    exact p4
  · have b2 : (x.2.1 == who) = false := by simp [e]
    simp only [b2, Bool.not_false, cond_true]
    refine hK _ _ ⟨Upd.quiet F hs3 (by omega), by rw [if_neg e]; rfl, ?_⟩
    rw [if_neg (fun h => by rw [if_neg e] at h; omega)]; exact pr3

theorem cdel_at {C : List B3} (hn : (C.map Prod.fst).Nodup) {k : Nat} {x : B3} (hk : C[k]? = some x) : cdel C x.1 = C.take k ++ C.drop (k + 1) := by
  induction C generalizing k with
  | nil => simp at hk
  | cons y C ih =>
    rw [List.map_cons, List.nodup_cons] at hn
    cases k with
    | zero =>
      simp at hk; subst hk
      simp only [cdel, List.filter_cons, ne_eq, not_true_eq_false, decide_false, Bool.false_eq_true, if_false, List.take_zero, List.nil_append, List.drop_succ_cons, List.drop_zero]
      apply List.filter_eq_self.2
      intro z hz
      simp only [decide_eq_true_eq]
      exact fun e => hn.1 (e ▸ List.mem_map_of_mem hz)
    | succ k =>
      simp at hk
      have := ih hn.2 hk
      simp only [cdel] at this
      have hne : ¬ y.1 = x.1 := fun e => hn.1 (e ▸ List.mem_map_of_mem (List.mem_of_getElem? hk))
      simp only [cdel, List.filter_cons, ne_eq, hne, not_false_eq_true, decide_true, if_true, List.take_succ_cons, List.drop_succ_cons, List.cons_append]
      simp only [ne_eq] at this
      rw [this]

theorem cfind_cdel' (C : List B3) {id j : Int} (e : id ≠ j) : cfind (cdel C j) id = cfind C id := by
  unfold cfind cdel
  rw [List.find?_filter]
  congr 1
  funext x
  by_cases h : id = x.1
  · subst h; simp [e]
  · simp [h]

theorem cfind_dels : ∀ (xs : List Int) (C : List B3) (id : Int), cfind (xs.foldl cdel C) id = if id ∈ xs then none else cfind C id
  | [], _, _ => by simp
  | x :: xs, C, id => by
    rw [List.foldl_cons, cfind_dels xs]
    by_cases h : id ∈ xs
    · simp [h]
    · simp only [h, if_false, List.mem_cons, or_false]
      by_cases e : id = x
      · subst e
        simp only [if_true]
        unfold cfind cdel
        rw [List.find?_eq_none]
        intro y hy
        have := (List.mem_filter.1 hy).2
        simp only [decide_eq_true_eq] at this ⊢
        exact fun h => this h.symm
      · rw [if_neg e, cfind_cdel' C e]

theorem nodup_dels : ∀ {xs : List Int} {C : List B3}, (C.map Prod.fst).Nodup → ((xs.foldl cdel C).map Prod.fst).Nodup
  | [], _, h => h
  | x :: xs, C, h => nodup_dels (xs := xs) (h.sublist (List.Sublist.map _ List.filter_sublist))

theorem len_dels : ∀ {xs : List Int} {C : List B3}, (xs.foldl cdel C).length ≤ C.length
  | [], _ => Nat.le_refl _
  | x :: xs, C => Nat.le_trans (len_dels (xs := xs)) (List.length_filter_le _ _)

theorem rgive_spec {h : Hp} {F : List Nat} {r : Nat} {most last : Int} {who : List UInt8} {C : List B3} {a : Option (Nat × Nat)} {n : Nat} {f : Bool} {xs : List Int} (hw : h.wf) (pr : RefP r most last C h F) (hnd : (C.map Prod.fst).Nodup) (hC : C.length ≤ 4096)
    (hi : IntsAt .u64 a n xs h F) (hn : n ≤ 4611686018427387904) :
    XCalls Try.prog 23 [.ptr (some (r, 0)), .str who, .slc a n f] h fun v h' => v = .int .i64 (giveC C who [] xs) ∧ ∃ F', Upd h h' F F' ∧ RefP r most last (if giveC C who [] xs = 0 then xs.foldl cdel C else C) h' F' := by
  have pr0 := pr
  obtain ⟨ar, fr, G, h1, h2, rfl, h4⟩ := pr
  obtain ⟨ti, ht, hd⟩ := t40s
  obtain ⟨ei, he, hsz, hby, hzk⟩ := t48s
  have hxl := hi.1
  have hrlt := hw.lt h1
  have hGlt : ∀ j ∈ G, j < h.next := fun j hj => (Own.rep _ _ _ _).lt hw h2 hj
  have hud : ∀ k, ti.d ≠ .int k := fun k e => by rw [hd] at e; cases e
  refine XCalls.cps fun K hK => ?_
  apply x23; unfold X23
  obtain ⟨p1, f1, G1, g1, hx1, ho1, u1, w1⟩ := (Own.nil 3 h).apps (f := true) hw ht hd ht hud he hsz (by omega) hzk (h2.ow.news fr) (b3rows_all C) (by rw [hby, b3rows_len]; omega) (by rw [b3rows_len]; omega)
  rw [Nat.zero_add, b3rows_len, List.nil_append] at ho1
  rw [Nat.zero_add, b3rows_len] at hx1
  refine ⟨ar, C.length, fr, by rw [Hp.ld_of h1]; rfl, p1, _, f1, g1, hx1, ?_⟩
  have hG1 : ∀ j ∈ G1, h.next ≤ j := fun j hj => (u1.new j hj).resolve_left (by simp)
  refine ⟨fun vs g => match vs with
    | [.slc a2 n2 _, .int _ i] => ∃ (k : Nat) (G2 : List Nat), i = k ∧ k ≤ n ∧ n2 = ((xs.take k).foldl cdel C).length ∧ Own 3 a2 n2 (b3rows ((xs.take k).foldl cdel C)) g G2 ∧ (∀ j ∈ G2, h.next ≤ j) ∧ (∀ j, j < h.next → g.get j = h.get j) ∧ h.next ≤ g.next ∧ g.wf ∧
        giveC C who [] xs = giveC C who (xs.take k) (xs.drop k)
    | _ => False, fun vs _ => match vs with
    | [_, .int _ i] => n - i.toNat
    | _ => 0, ⟨(by trivial), 0, G1, rfl, Nat.zero_le _, rfl, ho1, hG1, fun j hj => u1.same j hj (by simp), u1.le, w1, by simp⟩, ?_⟩
  rintro bs a2 n2 f2 i g ⟨k, G2, rfl, hk, rfl, ho, hG2, hs, hnx, wf, hgc⟩
  have prg : RefP r most last C g (r :: G) := (RefP.rep _ _ _ _).stay hw pr0 hs
  generalize hC' : (xs.take k).foldl cdel C = C' at ho
  have hC'l : C'.length ≤ C.length := by rw [← hC']; exact len_dels
  have hnd' : (C'.map Prod.fst).Nodup := by rw [← hC']; exact nodup_dels hnd
  cases hlt : ltI (↑k) (↑n) with
  | false =>
    rw [ltI_eq, decide_eq_false_iff_not] at hlt
    have hkn : k = n := by omega
    subst hkn
    have hz0 : giveC C who [] xs = 0 := by rw [hgc, List.drop_of_length_le (by omega)]; rfl
    obtain ⟨ar', fr', G', q1, q2, e', q4⟩ := prg
    refine ⟨_, Hp.st_of q1 (Nat.le_of_ble_eq_true rfl), ?_⟩
    refine hK _ _ ⟨by rw [hz0], r :: G2, ⟨fun j hj hF => ?_, fun j hj => ?_, by simp only [Hp.set_next]; exact hnx⟩, ?_⟩
    · simp only [List.mem_cons, not_or] at hF
      rw [Hp.get_set_ne hF.1, hs j hj]
    · rcases List.mem_cons.1 hj with rfl | hj
      · exact .inl (by simp)
      · exact .inr (hG2 j hj)
    · rw [if_pos hz0]
      rw [List.take_of_length_le (by omega)] at hC'
      rw [hC']
      refine ⟨a2, f2, G2, by rw [Hp.get_set_self]; rfl, (Own.rep _ _ _ _).loc _ _ _ (fun j hj => Hp.get_set_ne fun e => ?_) ho, rfl, fun hr => ?_⟩
      · have := hG2 j hj; omega
      · have := hG2 r hr; omega
  | true =>
    rw [ltI_eq, decide_eq_true_eq] at hlt
    obtain ⟨q, o, x, rfl, hx, hld⟩ := hi.at (h' := g) (fun j o hj hF => by rw [hs j (hw _ _ hj)]; exact hj) (k := k) (by omega)
    have hdr : xs.drop k = x :: xs.drop (k + 1) := by
      rw [List.drop_eq_getElem_cons (by omega)]
      congr 1
      have := List.getElem?_eq_getElem (l := xs) (i := k) (by omega)
      rw [this] at hx; exact Option.some.inj hx
    have htk : xs.take (k + 1) = xs.take k ++ [x] := by rw [List.take_add_one, hx]; rfl
    have hw1 := wrap_succ (k := k) (n := n) (by omega) (by omega)
    rw [hdr] at hgc
    simp only [giveC] at hgc
    have hfx : cfind C' x = if x ∈ xs.take k then none else cfind C x := by rw [← hC']; exact cfind_dels _ _ _
    refine ⟨fun vs g' => match vs with
      | [.int _ at', .int _ m] => g' = g ∧ ∃ j : Nat, m = j ∧ j ≤ C'.length ∧ ((at' = -1 ∧ cfind C' x = cfind (C'.drop j) x) ∨ ∃ (kk : Nat) (y : B3), at' = kk ∧ C'[kk]? = some y ∧ y.1 = x)
      | _ => False, fun vs _ => match vs with
      | [_, .int _ m] => C'.length - m.toNat
      | _ => 0, ⟨(by trivial), rfl, 0, rfl, Nat.zero_le _, .inl ⟨rfl, rfl⟩⟩, ?_⟩
    rintro bs2 at' m g' ⟨rfl, j, rfl, hj, hat⟩
    cases hlt2 : ltI (↑j) (↑C'.length) with
    | true =>
      rw [ltI_eq, decide_eq_true_eq] at hlt2
      have hjl : j < C'.length := by omega
      obtain ⟨q2, o2, row, rfl, hrow, _, hld2, _⟩ := ho.ld hjl
      rw [b3rows_get, List.getElem?_eq_getElem hjl] at hrow
      cases hrow
      have hw2 : IntKind.i64.wrap ((j : Int) + 1) = ((j + 1 : Nat) : Int) := wrap_succ (n := 5000) (by omega) (by omega)
      have dec : C'.length - Int.toNat (IntKind.i64.wrap ((j : Int) + 1)) < C'.length - Int.toNat (j : Int) := by
        rw [hw2]; simp only [Int.toNat_natCast]; omega
      refine ⟨⟨by omega, hlt2⟩, C'[j].1, hld2 0 (by omega), ⟨by omega, hlt⟩, x, hld, ?_⟩
      rw [List.drop_eq_getElem_cons hjl, cfind_cons] at hat
      by_cases e : C'[j].1 = x
      · have : (C'[j].1 == x) = true := by simp [e]
        rw [this]
        exact ⟨(by trivial), ⟨rfl, j + 1, hw2, by omega, .inr ⟨j, C'[j], rfl, List.getElem?_eq_getElem hjl, e⟩⟩, dec⟩
      · have : (C'[j].1 == x) = false := by simp [e]
        rw [this]
        rw [if_neg (fun h => e h.symm)] at hat
        exact ⟨(by trivial), ⟨rfl, j + 1, hw2, by omega, hat⟩, dec⟩
    | false =>
      rw [ltI_eq, decide_eq_false_iff_not] at hlt2
      have quiet : ∀ e : Int, giveC C who [] xs = e → e ≠ 0 → K (.int .i64 e) g' := fun e he h0 => by
        refine hK _ _ ⟨by rw [he], r :: G, Upd.quiet _ hs hnx, ?_⟩
        rw [if_neg (by rw [he]; exact h0)]; exact prg
      rcases hat with ⟨rfl, hnone⟩ | ⟨kk, y, rfl, hy, rfl⟩
      · have hneg : ltI (-1) 0 = true := by decide
        rw [hneg]
        rw [List.drop_of_length_le (by omega)] at hnone
        refine quiet 5 ?_ (by omega)
        rw [hgc]
        by_cases hm : x ∈ xs.take k
        · rw [if_pos hm]
        · rw [if_neg hm]
          rw [if_neg hm, hnone] at hfx
          have : codeC C x who = 5 := codeC_none hfx.symm who
          rw [this, if_neg (by omega)]
      · have hneg : ltI (↑kk) 0 = false := by rw [ltI_eq, decide_eq_false_iff_not]; omega
        rw [hneg]
        have hkl := (List.getElem?_eq_some_iff.1 hy).1
        have hfy : cfind C' y.1 = some y := by
          unfold cfind
          rw [List.find?_eq_some_iff_getElem]
          obtain ⟨hkl, e⟩ := List.getElem?_eq_some_iff.1 hy
          refine ⟨by simp, kk, hkl, e, fun j hjk => ?_⟩
          simp only [Bool.not_eq_true', decide_eq_false_iff_not]
          intro h
          have hl1 : j < (C'.map Prod.fst).length := by simp; omega
          have hl2 : kk < (C'.map Prod.fst).length := by simp; omega
          exact List.pairwise_iff_getElem.1 hnd' j kk hl1 hl2 hjk (by simp [e, h])
        have hm : y.1 ∉ xs.take k := fun hm => by rw [if_pos hm, hfy] at hfx; cases hfx
        rw [if_neg hm, hfy] at hfx
        rw [if_neg hm, codeC_some hfx.symm] at hgc
        obtain ⟨q2, o2, row, rfl, hrow, _, hld2, _⟩ := ho.ld hkl
        rw [b3rows_get, hy] at hrow
        cases hrow
        simp only [cond_false]
        refine ⟨⟨by omega, by omega⟩, y.2.1, hld2 1 (by omega), ?_⟩
        by_cases e : y.2.1 = who
        · have b2 : (y.2.1 == who) = true := by simp [e]
          simp only [b2, Bool.not_true, cond_false]
          rw [if_pos e] at hgc
          simp only [if_true] at hgc
          have hw3 : IntKind.i64.wrap ((kk : Int) + 1) = ((kk + 1 : Nat) : Int) := wrap_succ (n := 5000) (by omega) (by omega)
          rw [hw3]
          obtain ⟨a3, f3, hs1, o3⟩ := ho.ow.cut (T := T) (t := 40) (f := f2) (κ := .i64) (κ' := .i64) (lo := none) (hi := some kk) (i := 0) (j := kk) ht hd he hsz rfl rfl (by omega) (by omega)
          rw [Nat.sub_zero, List.drop_zero] at o3
          rw [Nat.sub_zero] at hs1
          refine ⟨a3, kk, f3, hs1, ?_⟩
          have hlt3 : (b3rows C').take kk = b3rows (C'.take kk) := by simp [b3rows, List.map_take]
          have hln3 : (b3rows (C'.take kk)).length = kk := by rw [b3rows_len, List.length_take]; omega
          rw [hlt3] at o3
          obtain ⟨p2, f4, G4, g4, hx4, ho4, u4, w4⟩ := (Own.nil 3 g').apps (f := true) wf ht hd ht hud he hsz (by omega) hzk (o3.news f3) (b3rows_all _) (by rw [hby, hln3]; omega) (by rw [hln3]; omega)
          rw [Nat.zero_add, hln3, List.nil_append] at ho4
          rw [Nat.zero_add, hln3] at hx4
          refine ⟨p2, kk, f4, g4, hx4, ?_⟩
          have hG4 : ∀ j ∈ G4, g'.next ≤ j := fun j hj => (u4.new j hj).resolve_left (by simp)
          have hs4 : ∀ j, j < g'.next → g4.get j = g'.get j := fun j hj => u4.same j hj (by simp)
          have ho' := (Own.rep _ _ _ _).stay wf ho hs4
          obtain ⟨a5, f5, hs5, o5⟩ := ho'.ow.cut (T := T) (t := 40) (f := f2) (κ := .i64) (κ' := .i64) (lo := some (kk + 1)) (hi := none) (i := kk + 1) (j := C'.length) ht hd he hsz rfl rfl (by omega) (Nat.le_refl _)
          refine ⟨a5, _, f5, hs5, ?_⟩
          have hlt5 : ((b3rows C').take C'.length).drop (kk + 1) = b3rows (C'.drop (kk + 1)) := by rw [List.take_of_length_le (by rw [b3rows_len]; omega)]; simp [b3rows, List.map_drop]
          rw [hlt5] at o5
          have hln5 : (b3rows (C'.drop (kk + 1))).length = C'.length - (kk + 1) := by rw [b3rows_len, List.length_drop]
          obtain ⟨p6, f6, G6, g6, hx6, ho6, u6, w6⟩ := ho4.apps (f := f4) w4 ht hd ht hud he hsz (by omega) hzk (o5.news f5) (b3rows_all _) (by rw [hby, hln5]; omega) (by rw [hln5]; omega)
          refine ⟨p6, _, f6, g6, hx6, (by trivial), ?_⟩
          rw [hln5] at ho6
          have hdel : cdel C' y.1 = C'.take kk ++ C'.drop (kk + 1) := cdel_at hnd' hy
          have hfin : (xs.take (k + 1)).foldl cdel C = C'.take kk ++ C'.drop (kk + 1) := by rw [htk, List.foldl_append, hC', List.foldl_cons, List.foldl_nil, hdel]
          have hlf : kk + (b3rows (C'.drop (kk + 1))).length = (C'.take kk ++ C'.drop (kk + 1)).length := by rw [hln5, List.length_append, List.length_take, List.length_drop]; omega
          refine ⟨⟨k + 1, G6, hw1, by omega, by rw [hfin]; exact hlf, ?_, fun j hj => ?_, fun j hj => ?_, by have := u4.le; have := u6.le; omega, w6, ?_⟩, ?_⟩
          · rw [hfin]
            have : b3rows (C'.take kk ++ C'.drop (kk + 1)) = b3rows (C'.take kk) ++ b3rows (C'.drop (kk + 1)) := by simp [b3rows]
            rw [this, hln5]; exact ho6
          · rcases u6.new j hj with h | h
            · have := hG4 j h; omega
            · have := u4.le; omega
          · have hj4 : j ∉ G4 := fun h => by have := hG4 j h; omega
            rw [u6.same j (by have := u4.le; omega) hj4, hs4 j (by omega), hs j hj]
          · rw [hgc, htk]
          · show n - Int.toNat (IntKind.i64.wrap ((k : Int) + 1)) < n - Int.toNat (k : Int)
            rw [hw1]; simp only [Int.toNat_natCast]; omega
        · have b2 : (y.2.1 == who) = false := by simp [e]
          simp only [b2, Bool.not_false, cond_true]
          rw [if_neg e] at hgc
          exact quiet 3 (by rw [hgc, if_neg (by omega)]) (by omega)

/-- a step of the reference's -/
theorem told_spec {h0 h : Hp} {F : List Nat} {r : Nat} {most last : Int} {C : List B3} {s : Stp} {row : List V} {a : Option (Nat × Nat)} {n : Nat} {f : Bool} (hw : h.wf) (hk : h0.keeps h) (pr : RefP r most last C h F) (ci : CInv most last C) (hm : most ≤ 4096) (hlast : last < 1000000) (sr : SRow h0 row s a n f) :
    XCalls Try.prog 16 [.ptr (some (r, 0)), .agg row] h fun v h' => v = .tup [.int .u64 (stepC most last C s).1.1, .int .i64 (stepC most last C s).1.2] ∧
      ∃ F', RefP r most (stepC most last C s).2.1 (stepC most last C s).2.2 h' F' ∧ Upd h h' F F' ∧ h'.wf := by
  obtain rfl := sr.eq
  have hnd := ci.nd
  have hC : C.length ≤ 4096 := by have := ci.len; omega
  have h0l := ci.l0
  apply x16
  unfold X16
  rintro g rfl
  generalize hrow : (O.row [.int .i64 s.d, .str s.who, .str s.to, .str s.s, .int .u64 s.n, .slc a n f] 1 false) = row
  have hwg : (h.alloc row).wf := hw.alloc
  have hgr : (h.alloc row).get h.next = some row := Hp.get_alloc_self
  have hst : ∀ j, j < h.next → (h.alloc row).get j = h.get j := fun j hj => Hp.get_alloc_ne (by omega)
  have prg : RefP r most last C (h.alloc row) F := (RefP.rep _ _ _ _).stay hw pr hst
  have ug : Upd h (h.alloc row) F F := Upd.alloc h row F
  have hkg : h0.keeps (h.alloc row) := hk.stay hw hst
  have ld : ∀ i, (h.alloc row).ld h.next i = [V.int .i64 s.d, .str s.who, .str s.to, .str s.s, .int .u64 s.n, .slc a n f][i]? := fun i => by rw [← hrow] at hgr ⊢; exact Hp.ld_of hgr i
  refine ⟨s.d, ld 0, ?_⟩
  unfold stepC
  by_cases d0 : s.d = 0
  · simp only [d0, if_true, beq_self_eq_true, cond_true]
    refine ⟨s.who, ld 1, s.s, ld 3, ?_⟩
    refine (rtake_spec hwg prg hC (by omega)).mono' ?_
    rintro v g2 _ wf2 ⟨F', u, hv⟩
    by_cases hc : takeCode most C.length s.who s.s = 0
    · rw [if_pos hc] at hv ⊢
      obtain ⟨rfl, pr2⟩ := hv
      exact ⟨_, _, rfl, rfl, F', pr2, ug.trans u, wf2⟩
    · rw [if_neg hc] at hv ⊢
      obtain ⟨rfl, pr2⟩ := hv
      exact ⟨_, _, rfl, rfl, F', pr2, ug.trans u, wf2⟩
  have b0 : (s.d == 0) = false := by simp [d0]
  simp only [b0, cond_false, if_neg d0]
  by_cases d1 : s.d = 1
  · simp only [d1, if_true, beq_self_eq_true, cond_true]
    refine ⟨s.who, ld 1, a, n, f, ld 5, ?_⟩
    have hxl : s.xs.length = n := by have := sr.ro.1; simpa using this
    have hfew := sr.few
    rw [by28] at hfew
    have hre := reach_le
    have ia : IntsAt .u64 a n s.xs (h.alloc row) F := by
      refine ⟨hxl, fun hn => ?_⟩
      obtain ⟨q, rfl, hq⟩ := sr.ro.2 hn
      have hq' := hkg _ _ _ hq
      refine ⟨q, 0, _, _, _, rfl, fun hF => ?_, hq', fun k hk => ?_⟩
      · obtain ⟨o, ho, hrw⟩ := (RefP.rep _ _ _ _).dom _ _ prg q hF
        rw [hq'] at ho; cases ho; cases hrw
      · rw [flat1, Nat.zero_add, List.getElem?_map]
    refine (rgive_spec hwg prg hnd hC ia (by omega)).mono' ?_
    rintro v g3 _ wf3 ⟨rfl, F', u3, pr3⟩
    exact ⟨_, rfl, rfl, F', pr3, ug.trans u3, wf3⟩
  have b1 : (s.d == 1) = false := by simp [d1]
  simp only [b1, cond_false, if_neg d1]
  by_cases d2 : s.d = 2
  · simp only [d2, if_true, beq_self_eq_true, cond_true]
    refine ⟨s.n, ld 4, s.who, ld 1, s.to, ld 2, ?_⟩
    refine (rmove_spec hwg prg hnd hC).mono' ?_
    rintro v g2 _ wf2 ⟨u, rfl, pr2⟩
    exact ⟨_, rfl, rfl, F, pr2, ug.trans u, wf2⟩
  have b2 : (s.d == 2) = false := by simp [d2]
  simp only [b2, cond_false, if_neg d2]
  by_cases d3 : s.d = 3
  · simp only [d3, if_true, beq_self_eq_true, cond_true]
    refine ⟨s.n, ld 4, s.who, ld 1, s.s, ld 3, ?_⟩
    refine (rset_spec hwg prg hnd hC).mono' ?_
    rintro v g2 _ wf2 ⟨u, rfl, pr2⟩
    exact ⟨_, rfl, rfl, F, pr2, ug.trans u, wf2⟩
  have b3 : (s.d == 3) = false := by simp [d3]
  simp only [b3, cond_false, if_neg d3]
  exact ⟨(by trivial), F, prg, ug, hwg⟩
end Go.Vex
