/-
  Contracts of ports, last part: At.
-/
import Derived.Test.YtibmhpkmmcgncaaVexDD
import Derived.Test.YtibmhpkmmcgncaaTab29
import Derived.Test.YtibmhpkmmcgncaaXp29
import Derived.Test.YtibmhpkmmcgncaaCpa29
import Derived.Test.YtibmhpkmmcgncaaCpb29
import Derived.Test.YtibmhpkmmcgncaaCpc29
import Derived.Test.YtibmhpkmmcgncaaCpd29
import Derived.Test.YtibmhpkmmcgncaaXs29
import Derived.Test.YtibmhpkmmcgncaaCsa29
import Derived.Test.YtibmhpkmmcgncaaCsb29
import Derived.Test.YtibmhpkmmcgncaaCsc29
import Derived.Test.YtibmhpkmmcgncaaCsd29
set_option linter.unusedVariables false
set_option linter.unusedSimpArgs false
namespace Go.Vex.Ports
open Go.Proofs

def atB (k ip port : Int) (x : Bd) : Bool := x.kind == k && (x.port == port && x.ip == ip)

/-- the sockets of a place -/
def atL (L : List (Int × Bd)) (k ip port : Int) : List Int := (L.filter fun x => atB k ip port x.2).map Prod.fst

theorem tS : ∃ ti, T 69 = some ti ∧ ti.d = .slc 30 := ⟨_, rfl, rfl⟩
theorem tE : ∃ ei, T 30 = some ei ∧ ei.size = 1 ∧ ei.bytes ≤ 16 ∧ zok ei = true := ⟨_, rfl, rfl, by decide, rfl⟩

theorem at1_spec {h : Hp} {p : Nat} {L : List (Int × Bd)} {F : List Nat} {k ip port : Int} (hw : h.wf) (r : PortsR p L h F) (hL : L.length ≤ 1073741824) :
    XCalls Try.prog 80 [.ptr (some (p, 0)), .int .u8 k, .agg [.int .u32 ip, .int .u16 port]] h fun v h' => ∃ (a : Option (Nat × Nat)) (n : Nat) (f : Bool) (l : List Int) (G : List Nat), v = .slc a n f ∧ l.Perm (atL L k ip port) ∧ l.Pairwise (fun x y => x ≤ y) ∧ Own 1 a n (l.map fun s => [V.int .u64 s]) h' G ∧ (∀ j ∈ G, h.next ≤ j) ∧ Quiet h h' := by
  obtain ⟨m, o, h1, h2, h3, rfl, h5⟩ := r
  have hpn := hw.lt h1
  have hmn := hw.lt h2
  obtain ⟨ti, kt, et, ei, ht, hd, he, hz, KK⟩ := mtP.ex
  obtain ⟨si, hst, hsd⟩ := tS
  obtain ⟨xi, hxe, hxs, hxb, hxz⟩ := tE
  refine XCalls.cps fun K hK => ?_
  apply x80; unfold X80
  rintro g1 hg1
  have w1 : g1.wf := by rw [hg1]; exact hw.alloc
  have n1 : g1.next = h.next + 1 := by rw [hg1]; rfl
  have s1 : ∀ j, j < h.next → g1.get j = h.get j := fun j hj => by rw [hg1]; exact Hp.get_alloc_ne (by omega)
  have a1 : g1.get h.next = some (.row [.int .u32 ip, .int .u16 port] 1 false) := by rw [hg1]; exact Hp.get_alloc_self
  clear hg1
  have hm1 : g1.get m = some o := by rw [s1 _ hmn]; exact h2
  obtain ⟨g, cur, hx, hi, hcur, hsame, hnext, hwg⟩ := (h3.is hm1).range w1 ht hd
  have hne : m ≠ g1.next := by omega
  refine ⟨some m, by rw [Hp.ld_of (by rw [s1 _ hpn]; exact h1)]; rfl, g, hx, ?_⟩
  refine ⟨fun vs h1 => match vs with
      | [.slc a n f] => ∃ sn l G, MapIter kI bV cur m g1.next sn h1 ∧ Own 1 a n (l.map fun s => [V.int .u64 s]) h1 G ∧ (l ++ atL ((rem cur sn).map Prod.fst) k ip port).Perm (atL L k ip port) ∧ (∀ j ∈ G, g1.next < j) ∧ h1.get h.next = some (.row [.int .u32 ip, .int .u16 port] 1 false) ∧
          (∀ j, j < h.next → h1.get j = h.get j) ∧ h1.wf ∧ g1.next < h1.next
      | _ => False,
    fun _ h1 => match h1.get g1.next with
      | some (.miter _ _ sn _) => (rem cur sn).length
      | _ => 0, ⟨rfl, [], [], [], hi, Own.nil 1 g, by rw [rem_nil, hcur, List.nil_append], by simp, by rw [hsame _ (by omega)]; exact a1, fun j hj => by rw [hsame _ (by omega), s1 j hj], hwg, by omega⟩, ?_⟩
  rintro bs a n f h1' ⟨sn, l, G, hi1, hO, hp, hG, ha, hs, hw1, hn1⟩
  obtain ⟨r, hr, hend, hforms, hstep⟩ := hi1.next hne
  have hlen : n ≤ L.length := by
    have e := hp.length_eq
    have e1 := hO.1
    simp only [List.length_map, List.length_append] at e e1
    have : (atL L k ip port).length ≤ L.length := by unfold atL; rw [List.length_map]; exact List.length_filter_le _ _
    omega
  refine ⟨r, hr, fun hmm => ?_, hforms, ?_⟩
  · have h0 := hend hmm
    rw [h0] at hp
    have hp' : l.Perm (atL L k ip port) := by simpa [atL] using hp
    refine (Sort.sort_own hw1 hO (by omega)).mono ?_
    rintro _ h2' ⟨rfl, l', hp2, hris, hO2, hs2, hn2, hw2⟩
    refine hK _ _ ⟨a, n, f, l', G, rfl, hp2.trans hp', ?_, hO2, fun j hj => by have := hG j hj; omega, fun j hj => ?_, by omega, hw2⟩
    · exact List.Pairwise.imp (fun {x y} hxy => by simp only [Sort.lt, ltI_eq, decide_eq_false_iff_not] at hxy; omega) hris
    · rw [hs2 j (fun hj' => by have := hG j hj'; omega) (by omega)]; exact hs j hj
  · intro x' b' h2 hm2
    obtain ⟨z, hz, rfl, rfl, hi2, hent, hs2, hn2⟩ := hstep x' b' h2 hm2
    have hrs := rem_step hi1.nodup hz
    obtain ⟨clk1, _, _, e1⟩ := hi1.ex
    obtain ⟨clk2, em2, _, e2⟩ := hi2.ex
    have hw2 : h2.wf := fun q o' hq => by
      rw [hn2]
      by_cases e : q = g1.next
      · omega
      · rw [hs2 q e] at hq; exact hw1 q o' hq
    refine ⟨z.1.1, z.1.2.kind, z.1.2.ip, z.1.2.port, z.1.2.share, hent, ?_⟩
    rintro h3' rfl
    refine ⟨_, Hp.st_of Hp.get_alloc_self (Nat.le_of_ble_eq_true rfl), ?_⟩
    obtain ⟨g4, hg4⟩ : ∃ g4, g4 = (h2.alloc (.row [.int .u8 0, .int .u32 0, .int .u16 0, .bool false] 1 false)).set h2.next (.row (splice [.int .u8 0, .int .u32 0, .int .u16 0, .bool false] 0 [.int .u8 z.1.2.kind, .int .u32 z.1.2.ip, .int .u16 z.1.2.port, .bool z.1.2.share]) 1 false) := ⟨_, rfl⟩
    have g4s : ∀ j, j < h2.next → g4.get j = h2.get j := fun j hj => by rw [hg4, Hp.get_set_ne (by omega), Hp.get_alloc_ne (by omega)]
    have g4v : g4.get h2.next = some (.row [.int .u8 z.1.2.kind, .int .u32 z.1.2.ip, .int .u16 z.1.2.port, .bool z.1.2.share] 1 false) := by rw [hg4]; exact Hp.get_set_self
    have g4n : g4.next = h2.next + 1 := by rw [hg4]; rfl
    have g4w : g4.wf := by rw [hg4]; exact hw2.alloc.set (Nat.lt_succ_self _)
    rw [← hg4]
    clear hg4
    have g4o : ∀ j, j ≠ g1.next → j < h2.next → g4.get j = h1'.get j := fun j hj hlt => by rw [g4s j hlt, hs2 j hj]
    have i4 := hi2.keep (h' := g4) (g4s _ (by omega)) (g4s _ (by omega))
    have hO4 : Own 1 a n (l.map fun s => [V.int .u64 s]) g4 G := (Own.rep _ _ _ _).loc _ _ _ (fun j hj => g4o j (by have := hG j hj; omega) (by have := (Own.rep _ _ _ _).lt hw1 hO hj; omega)) hO
    have ga4 : g4.get h.next = some (.row [.int .u32 ip, .int .u16 port] 1 false) := by rw [g4o _ (by omega) (by omega)]; exact ha
    have gs4 : ∀ j, j < h.next → g4.get j = h.get j := fun j hj => by rw [g4o _ (by omega) (by omega)]; exact hs j hj
    have cnt : ∀ h6 : Hp, h6.get g1.next = h2.get g1.next → (match h6.get g1.next with
        | some (.miter _ _ sn _) => (rem cur sn).length
        | _ => 0) < (match h1'.get g1.next with
        | some (.miter _ _ sn _) => (rem cur sn).length
        | _ => 0) := fun h6 e => by
      rw [e, e2, e1]
      have := hrs.length_eq
      simp only [List.length_cons] at this
      simp only; omega
    have cnt4 := cnt g4 (g4s _ (by omega))
    have split : (atL ((rem cur sn).map Prod.fst) k ip port).Perm ((if atB k ip port z.1.2 then [z.1.1] else []) ++ atL ((rem cur (sn ++ [z.2])).map Prod.fst) k ip port) := by
      have := ((hrs.map Prod.fst).filter fun x => atB k ip port x.2).map Prod.fst
      refine this.trans (List.Perm.of_eq ?_)
      unfold atL
      rw [List.map_cons, List.filter_cons]
      split <;> rfl
    have skip : atB k ip port z.1.2 = false → ∃ sn l G, MapIter kI bV cur m g1.next sn g4 ∧ Own 1 a n (l.map fun s => [V.int .u64 s]) g4 G ∧ (l ++ atL ((rem cur sn).map Prod.fst) k ip port).Perm (atL L k ip port) ∧ (∀ j ∈ G, g1.next < j) ∧ g4.get h.next = some (.row [.int .u32 ip, .int .u16 port] 1 false) ∧
          (∀ j, j < h.next → g4.get j = h.get j) ∧ g4.wf ∧ g1.next < g4.next := fun hb =>
      ⟨_, l, G, i4, hO4, (List.Perm.append_left l (by rw [hb] at split; exact split.symm)).trans hp, hG, ga4, gs4, g4w, by omega⟩
    refine ⟨_, by rw [Hp.ld_of g4v]; rfl, ?_⟩
    cases hk : z.1.2.kind == k with
    | false => exact ⟨rfl, skip (by simp at hk; simp [atB, hk]), cnt4⟩
    | true =>
      simp only [beq_iff_eq] at hk
      refine ⟨_, by rw [Hp.ld_of g4v]; rfl, _, by rw [Hp.ld_of ga4]; rfl, ?_⟩
      cases hpo : z.1.2.port == port with
      | false => exact ⟨rfl, skip (by simp at hpo; simp [atB, hpo]), cnt4⟩
      | true =>
        simp only [beq_iff_eq] at hpo
        refine ⟨_, by rw [Hp.ld_of g4v]; rfl, _, by rw [Hp.ld_of ga4]; rfl, ?_⟩
        cases hip : z.1.2.ip == ip with
        | false => exact ⟨rfl, skip (by simp at hip; simp [atB, hip]), cnt4⟩
        | true =>
          simp only [beq_iff_eq] at hip
          have hb : atB k ip port z.1.2 = true := by simp [atB, hk, hpo, hip]
          rintro g7 rfl
          have hF7 : ∀ j ∈ G, (g4.alloc (.row [.int .u64 z.1.1] 1 false)).get j = g4.get j := fun j hj => Hp.get_alloc_ne (by have := (Own.rep _ _ _ _).lt g4w hO4 hj; omega)
          have hO7 := (Own.rep _ _ _ _).loc _ _ _ hF7 hO4
          have hx7 : (g4.alloc (.row [V.int .u64 z.1.1] 1 false)).get g4.next = some (.row [V.int .u64 z.1.1] 1 false) := Hp.get_alloc_self
          have hnle : n + 1 ≤ L.length := by
            have e := hp.length_eq
            have e' := split.length_eq
            have e1 := hO.1
            rw [hb] at e'
            simp only [List.length_map, List.length_append, if_true, List.length_cons, List.length_nil] at e e' e1
            have : (atL L k ip port).length ≤ L.length := by unfold atL; rw [List.length_map]; exact List.length_filter_le _ _
            omega
          obtain ⟨g8, hxa, hO8, u8, w8⟩ := hO7.app (f := f) (u := 69) (y := .slc (some (g4.next, 0)) 1 true) (news := [[V.int .u64 z.1.1]]) g4w.alloc hst hsd hst (by intro k; rw [hsd]; exact fun h => by cases h) hxe hxs (by omega) hxz
            (xnews_one hx7 rfl) (by simp) (by simp) (by simp; exact Nat.le_trans (Nat.mul_le_mul (show n + 1 ≤ 1073741824 by omega) hxb) (by decide)) (by simp; omega)
          have keep8 : ∀ j, j < g4.next → j ∉ G → g8.get j = g4.get j := fun j h1 h2 => by rw [u8.same j (by simp [Hp.alloc_next]; omega) h2, Hp.get_alloc_ne (by omega)]
          have n8 : g4.next + 1 ≤ g8.next := u8.le
          refine ⟨_, _, _, g8, hxa, rfl, ⟨sn ++ [z.2], l ++ [z.1.1], [(g4.alloc (.row [V.int .u64 z.1.1] 1 false)).next], i4.keep (keep8 _ (by omega) (fun hj => by have := hG _ hj; omega)) (keep8 _ (by omega) (fun hj => by have := hG _ hj; omega)), ?_, ?_, fun j hj => by rw [List.mem_singleton] at hj; subst hj; simp [Hp.alloc_next]; omega, ?_, fun j hj => ?_, w8, by omega⟩, cnt g8 ?_⟩
          · rw [List.map_append]; exact hO8
          · rw [List.append_assoc]
            refine (List.Perm.append_left l ?_).trans hp
            rw [hb] at split
            exact split.symm
          · rw [keep8 _ (by omega) (fun hj => by have := hG _ hj; omega)]; exact ga4
          · rw [keep8 _ (by omega) (fun hj' => by have := hG _ hj'; omega)]; exact gs4 j hj
          · rw [keep8 _ (by omega) (fun hj => by have := hG _ hj; omega)]; exact g4s _ (by omega)

/-- the sockets at an address, or at none -/
def whoL (L : List (Int × Bd)) (k ip port : Int) : List Int := if atL L k ip port = [] then atL L k 0 port else atL L k ip port

theorem at_spec {h : Hp} {p : Nat} {L : List (Int × Bd)} {F : List Nat} {k ip port : Int} (hw : h.wf) (r : PortsR p L h F) (hL : L.length ≤ 1073741824) :
    XCalls Try.prog 63 [.ptr (some (p, 0)), .int .u8 k, .agg [.int .u32 ip, .int .u16 port]] h fun v h' => ∃ (a : Option (Nat × Nat)) (n : Nat) (f : Bool) (l : List Int) (G : List Nat), v = .slc a n f ∧ l.Perm (whoL L k ip port) ∧ l.Pairwise (fun x y => x ≤ y) ∧ Own 1 a n (l.map fun s => [V.int .u64 s]) h' G ∧ (∀ j ∈ G, h.next ≤ j) ∧ Quiet h h' := by
  refine XCalls.cps fun K hK => ?_
  apply x63; unfold X63
  rintro g1 rfl
  have q1 : Quiet h (h.alloc (.row [.int .u32 ip, .int .u16 port] 1 false)) := Quiet.alloc hw _
  refine ⟨ip, port, by simp (disch := (first | omega | (simp only [Hp.alloc_next, Hp.set_next] <;> omega) | (simp (disch := (first | omega | (simp only [Hp.alloc_next, Hp.set_next] <;> omega) | fail)) only [Hp.get_set_self, Hp.get_set_ne, Hp.get_alloc_self, Hp.get_alloc_ne, Hp.get_alloc_at, Hp.get_set_at, Hp.set_next, Hp.alloc_next]; done) | fail)) only [Hp.st, Hp.ld, Hp.lda, splice, ble_eq', if_true, if_false, ite_true, ite_false, cond_true, cond_false, decide_true, decide_false, List.length_cons, List.length_nil, List.take_zero, List.take_succ_cons, List.nil_append, List.cons_append, List.append_nil, List.drop_succ_cons, List.drop_zero, List.drop_nil, List.getElem?_cons_succ, List.getElem?_cons_zero, Nat.reduceAdd, Nat.reduceLeDiff, Nat.reduceEqDiff, Nat.zero_add, Nat.add_zero, Nat.le_refl, Nat.zero_le, Nat.succ_ne_self, Nat.mul_one, Int.toNat_natCast, Option.some.injEq, Option.isNone_some, Option.isNone_none, V.int.injEq, V.str.injEq, V.bool.injEq, V.ptr.injEq, V.slc.injEq, V.map.injEq, V.agg.injEq, V.tup.injEq, List.cons.injEq, Prod.mk.injEq, onS, true_and, and_true, and_assoc, exists_and_left, exists_eq_left', forall_eq, heq_eq_eq, reduceCtorEq, Bool.not_true, Bool.not_false, eq_self, not_false_eq_true, Nat.left_eq_add, Nat.add_eq_left, Nat.add_left_cancel_iff, Nat.add_right_cancel_iff, Nat.reduceEqDiff, Nat.one_ne_zero, Hp.get_set_self, Hp.get_set_ne, Hp.get_alloc_self, Hp.get_alloc_ne, Hp.get_alloc_at, Hp.get_set_at, Hp.set_next, Hp.alloc_next, Option.some_ne_none, V.tup.injEq, Option.isSome_some, Option.isSome_none, exists_eq_left, exists_eq, Nat.mul_zero], ?_⟩
  refine (at1_spec hw.alloc (r.quiet hw q1) hL).mono ?_
  rintro _ g2 ⟨a, n, f, l, G, rfl, hp, hs, hO, hG, q2⟩
  have hb2 : g2.get h.next = some (.row [.int .u32 ip, .int .u16 port] 1 false) := by rw [q2.same _ (by simp (disch := (first | omega | (simp only [Hp.alloc_next, Hp.set_next] <;> omega) | (simp (disch := (first | omega | (simp only [Hp.alloc_next, Hp.set_next] <;> omega) | fail)) only [Hp.get_set_self, Hp.get_set_ne, Hp.get_alloc_self, Hp.get_alloc_ne, Hp.get_alloc_at, Hp.get_set_at, Hp.set_next, Hp.alloc_next]; done) | fail)) only [Hp.st, Hp.ld, Hp.lda, splice, ble_eq', if_true, if_false, ite_true, ite_false, cond_true, cond_false, decide_true, decide_false, List.length_cons, List.length_nil, List.take_zero, List.take_succ_cons, List.nil_append, List.cons_append, List.append_nil, List.drop_succ_cons, List.drop_zero, List.drop_nil, List.getElem?_cons_succ, List.getElem?_cons_zero, Nat.reduceAdd, Nat.reduceLeDiff, Nat.reduceEqDiff, Nat.zero_add, Nat.add_zero, Nat.le_refl, Nat.zero_le, Nat.succ_ne_self, Nat.mul_one, Int.toNat_natCast, Option.some.injEq, Option.isNone_some, Option.isNone_none, V.int.injEq, V.str.injEq, V.bool.injEq, V.ptr.injEq, V.slc.injEq, V.map.injEq, V.agg.injEq, V.tup.injEq, List.cons.injEq, Prod.mk.injEq, onS, true_and, and_true, and_assoc, exists_and_left, exists_eq_left', forall_eq, heq_eq_eq, reduceCtorEq, Bool.not_true, Bool.not_false, eq_self, not_false_eq_true, Nat.left_eq_add, Nat.add_eq_left, Nat.add_left_cancel_iff, Nat.add_right_cancel_iff, Nat.reduceEqDiff, Nat.one_ne_zero, Hp.get_set_self, Hp.get_set_ne, Hp.get_alloc_self, Hp.get_alloc_ne, Hp.get_alloc_at, Hp.get_set_at, Hp.set_next, Hp.alloc_next, Option.some_ne_none, V.tup.injEq, Option.isSome_some, Option.isSome_none, exists_eq_left, exists_eq, Nat.mul_zero]; omega)]; simp (disch := (first | omega | (simp only [Hp.alloc_next, Hp.set_next] <;> omega) | (simp (disch := (first | omega | (simp only [Hp.alloc_next, Hp.set_next] <;> omega) | fail)) only [Hp.get_set_self, Hp.get_set_ne, Hp.get_alloc_self, Hp.get_alloc_ne, Hp.get_alloc_at, Hp.get_set_at, Hp.set_next, Hp.alloc_next]; done) | fail)) only [Hp.st, Hp.ld, Hp.lda, splice, ble_eq', if_true, if_false, ite_true, ite_false, cond_true, cond_false, decide_true, decide_false, List.length_cons, List.length_nil, List.take_zero, List.take_succ_cons, List.nil_append, List.cons_append, List.append_nil, List.drop_succ_cons, List.drop_zero, List.drop_nil, List.getElem?_cons_succ, List.getElem?_cons_zero, Nat.reduceAdd, Nat.reduceLeDiff, Nat.reduceEqDiff, Nat.zero_add, Nat.add_zero, Nat.le_refl, Nat.zero_le, Nat.succ_ne_self, Nat.mul_one, Int.toNat_natCast, Option.some.injEq, Option.isNone_some, Option.isNone_none, V.int.injEq, V.str.injEq, V.bool.injEq, V.ptr.injEq, V.slc.injEq, V.map.injEq, V.agg.injEq, V.tup.injEq, List.cons.injEq, Prod.mk.injEq, onS, true_and, and_true, and_assoc, exists_and_left, exists_eq_left', forall_eq, heq_eq_eq, reduceCtorEq, Bool.not_true, Bool.not_false, eq_self, not_false_eq_true, Nat.left_eq_add, Nat.add_eq_left, Nat.add_left_cancel_iff, Nat.add_right_cancel_iff, Nat.reduceEqDiff, Nat.one_ne_zero, Hp.get_set_self, Hp.get_set_ne, Hp.get_alloc_self, Hp.get_alloc_ne, Hp.get_alloc_at, Hp.get_set_at, Hp.set_next, Hp.alloc_next, Option.some_ne_none, V.tup.injEq, Option.isSome_some, Option.isSome_none, exists_eq_left, exists_eq, Nat.mul_zero]
  have n2 : h.next + 1 ≤ g2.next := q2.le
  have q02 := q1.trans q2
  have hl : l.length = n := by have := hO.1; simpa using this
  refine ⟨_, _, _, rfl, ?_⟩
  cases hc : ltI 0 (↑n) with
  | true =>
    rw [ltI_eq, decide_eq_true_eq] at hc
    have : whoL L k ip port = atL L k ip port := by
      unfold whoL
      rw [if_neg]
      intro e
      have := hp.length_eq
      rw [e, hl, List.length_nil] at this; omega
    exact hK _ _ ⟨a, n, f, l, G, rfl, by rw [this]; exact hp, hs, hO, fun j hj => by have := hG j hj; simp [Hp.alloc_next] at this; omega, q02⟩
  | false =>
    rw [ltI_eq, decide_eq_false_iff_not] at hc
    have : whoL L k ip port = atL L k 0 port := by
      unfold whoL
      rw [if_pos]
      apply List.eq_nil_of_length_eq_zero
      rw [← hp.length_eq]; omega
    refine ⟨_, Hp.st_of hb2 (Nat.le_of_ble_eq_true rfl), ?_⟩
    have hsp : g2.set h.next (.row (splice [.int .u32 ip, .int .u16 port] 0 [.int .u32 0]) 1 false) = g2.set h.next (.row [.int .u32 0, .int .u16 port] 1 false) := rfl
    rw [hsp]
    have q3 : Quiet h (g2.set h.next (.row [.int .u32 0, .int .u16 port] 1 false)) := ⟨fun j hj => by rw [← q02.same j hj]; simp (disch := (first | omega | (simp only [Hp.alloc_next, Hp.set_next] <;> omega) | (simp (disch := (first | omega | (simp only [Hp.alloc_next, Hp.set_next] <;> omega) | fail)) only [Hp.get_set_self, Hp.get_set_ne, Hp.get_alloc_self, Hp.get_alloc_ne, Hp.get_alloc_at, Hp.get_set_at, Hp.set_next, Hp.alloc_next]; done) | fail)) only [Hp.st, Hp.ld, Hp.lda, splice, ble_eq', if_true, if_false, ite_true, ite_false, cond_true, cond_false, decide_true, decide_false, List.length_cons, List.length_nil, List.take_zero, List.take_succ_cons, List.nil_append, List.cons_append, List.append_nil, List.drop_succ_cons, List.drop_zero, List.drop_nil, List.getElem?_cons_succ, List.getElem?_cons_zero, Nat.reduceAdd, Nat.reduceLeDiff, Nat.reduceEqDiff, Nat.zero_add, Nat.add_zero, Nat.le_refl, Nat.zero_le, Nat.succ_ne_self, Nat.mul_one, Int.toNat_natCast, Option.some.injEq, Option.isNone_some, Option.isNone_none, V.int.injEq, V.str.injEq, V.bool.injEq, V.ptr.injEq, V.slc.injEq, V.map.injEq, V.agg.injEq, V.tup.injEq, List.cons.injEq, Prod.mk.injEq, onS, true_and, and_true, and_assoc, exists_and_left, exists_eq_left', forall_eq, heq_eq_eq, reduceCtorEq, Bool.not_true, Bool.not_false, eq_self, not_false_eq_true, Nat.left_eq_add, Nat.add_eq_left, Nat.add_left_cancel_iff, Nat.add_right_cancel_iff, Nat.reduceEqDiff, Nat.one_ne_zero, Hp.get_set_self, Hp.get_set_ne, Hp.get_alloc_self, Hp.get_alloc_ne, Hp.get_alloc_at, Hp.get_set_at, Hp.set_next, Hp.alloc_next, Option.some_ne_none, V.tup.injEq, Option.isSome_some, Option.isSome_none, exists_eq_left, exists_eq, Nat.mul_zero], by simp (disch := (first | omega | (simp only [Hp.alloc_next, Hp.set_next] <;> omega) | (simp (disch := (first | omega | (simp only [Hp.alloc_next, Hp.set_next] <;> omega) | fail)) only [Hp.get_set_self, Hp.get_set_ne, Hp.get_alloc_self, Hp.get_alloc_ne, Hp.get_alloc_at, Hp.get_set_at, Hp.set_next, Hp.alloc_next]; done) | fail)) only [Hp.st, Hp.ld, Hp.lda, splice, ble_eq', if_true, if_false, ite_true, ite_false, cond_true, cond_false, decide_true, decide_false, List.length_cons, List.length_nil, List.take_zero, List.take_succ_cons, List.nil_append, List.cons_append, List.append_nil, List.drop_succ_cons, List.drop_zero, List.drop_nil, List.getElem?_cons_succ, List.getElem?_cons_zero, Nat.reduceAdd, Nat.reduceLeDiff, Nat.reduceEqDiff, Nat.zero_add, Nat.add_zero, Nat.le_refl, Nat.zero_le, Nat.succ_ne_self, Nat.mul_one, Int.toNat_natCast, Option.some.injEq, Option.isNone_some, Option.isNone_none, V.int.injEq, V.str.injEq, V.bool.injEq, V.ptr.injEq, V.slc.injEq, V.map.injEq, V.agg.injEq, V.tup.injEq, List.cons.injEq, Prod.mk.injEq, onS, true_and, and_true, and_assoc, exists_and_left, exists_eq_left', forall_eq, heq_eq_eq, reduceCtorEq, Bool.not_true, Bool.not_false, eq_self, not_false_eq_true, Nat.left_eq_add, Nat.add_eq_left, Nat.add_left_cancel_iff, Nat.add_right_cancel_iff, Nat.reduceEqDiff, Nat.one_ne_zero, Hp.get_set_self, Hp.get_set_ne, Hp.get_alloc_self, Hp.get_alloc_ne, Hp.get_alloc_at, Hp.get_set_at, Hp.set_next, Hp.alloc_next, Option.some_ne_none, V.tup.injEq, Option.isSome_some, Option.isSome_none, exists_eq_left, exists_eq, Nat.mul_zero]; omega, q02.wf.set (by omega)⟩
    refine ⟨0, port, by simp (disch := (first | omega | (simp only [Hp.alloc_next, Hp.set_next] <;> omega) | (simp (disch := (first | omega | (simp only [Hp.alloc_next, Hp.set_next] <;> omega) | fail)) only [Hp.get_set_self, Hp.get_set_ne, Hp.get_alloc_self, Hp.get_alloc_ne, Hp.get_alloc_at, Hp.get_set_at, Hp.set_next, Hp.alloc_next]; done) | fail)) only [Hp.st, Hp.ld, Hp.lda, splice, ble_eq', if_true, if_false, ite_true, ite_false, cond_true, cond_false, decide_true, decide_false, List.length_cons, List.length_nil, List.take_zero, List.take_succ_cons, List.nil_append, List.cons_append, List.append_nil, List.drop_succ_cons, List.drop_zero, List.drop_nil, List.getElem?_cons_succ, List.getElem?_cons_zero, Nat.reduceAdd, Nat.reduceLeDiff, Nat.reduceEqDiff, Nat.zero_add, Nat.add_zero, Nat.le_refl, Nat.zero_le, Nat.succ_ne_self, Nat.mul_one, Int.toNat_natCast, Option.some.injEq, Option.isNone_some, Option.isNone_none, V.int.injEq, V.str.injEq, V.bool.injEq, V.ptr.injEq, V.slc.injEq, V.map.injEq, V.agg.injEq, V.tup.injEq, List.cons.injEq, Prod.mk.injEq, onS, true_and, and_true, and_assoc, exists_and_left, exists_eq_left', forall_eq, heq_eq_eq, reduceCtorEq, Bool.not_true, Bool.not_false, eq_self, not_false_eq_true, Nat.left_eq_add, Nat.add_eq_left, Nat.add_left_cancel_iff, Nat.add_right_cancel_iff, Nat.reduceEqDiff, Nat.one_ne_zero, Hp.get_set_self, Hp.get_set_ne, Hp.get_alloc_self, Hp.get_alloc_ne, Hp.get_alloc_at, Hp.get_set_at, Hp.set_next, Hp.alloc_next, Option.some_ne_none, V.tup.injEq, Option.isSome_some, Option.isSome_none, exists_eq_left, exists_eq, Nat.mul_zero], ?_⟩
    refine (at1_spec q3.wf (r.quiet hw q3) hL).mono ?_
    rintro _ g4 ⟨a', n', f', l', G', rfl, hp', hs', hO', hG', q4⟩
    exact ⟨_, _, _, rfl, hK _ _ ⟨a', n', f', l', G', rfl, by rw [this]; exact hp', hs', hO', fun j hj => by have := hG' j hj; simp only [Hp.set_next] at this; omega, q3.trans q4⟩⟩
end Go.Vex.Ports
