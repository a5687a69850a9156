/-
  Contracts of slices.Sorted(maps.Keys(m)).
-/
import Derived.Test.YtkpkpnmkoejidaaVexCC
import Derived.Test.YtkpkpnmkoejidaaTab09
import Derived.Test.YtkpkpnmkoejidaaXs09
import Derived.Test.YtkpkpnmkoejidaaXk09
import Derived.Test.YtkpkpnmkoejidaaCsa09
import Derived.Test.YtkpkpnmkoejidaaCsb09
import Derived.Test.YtkpkpnmkoejidaaCsc09
import Derived.Test.YtkpkpnmkoejidaaCsd09
set_option linter.unusedVariables false
set_option linter.unusedSimpArgs false
namespace Go.Vex.Sort
open Go.Proofs

section
variable {β : Type} {vV : β → V}

theorem tMap : ∃ ti, T 52 = some ti ∧ ti.d = .map 33 57 := ⟨_, rfl, rfl⟩
theorem tSlc : ∃ ti, T 35 = some ti ∧ ti.d = .slc 33 := ⟨_, rfl, rfl⟩
theorem tK : ∃ ei, T 33 = some ei ∧ ei.size = 1 ∧ ei.bytes ≤ 16 ∧ zok ei = true := ⟨_, rfl, rfl, by decide, rfl⟩

/-- the iterator of maps.Keys: each key once, in some order -/
theorem keys1_spec {h : Hp} {K : V → Hp → Prop} {l c m : Nat} {L : List (E × β)} (J : List E → Hp → Prop) (hw : h.wf) (hc : h.get c = some (.row [.map (some m)] 1 false)) (hm : MapIs en vV L m h [m])
    (h0 : ∀ h', (∀ j, j ≠ h.next → h'.get j = h.get j) → h'.next = h.next + 1 → h'.wf → J [] h')
    (step : ∀ (done : List E) (k : E) (rest : List E) (h1 : Hp), J done h1 → (done ++ k :: rest).Perm (L.map Prod.fst) → XYield Try.prog l [en k] h1 fun v h2 => v = .bool true ∧ J (done ++ [k]) h2 ∧ h2.get m = h1.get m ∧ h2.get h.next = h1.get h.next)
    (stab : ∀ (done : List E) (h1 h2 : Hp), J done h1 → (∀ j, j ≠ h.next → h2.get j = h1.get j) → h2.next = h1.next → J done h2)
    (fin : ∀ (done : List E) (h1 : Hp), J done h1 → done.Perm (L.map Prod.fst) → K (.tup []) h1) :
    XCalls Try.prog 24 [.yld l, .ptr (some (c, 0))] h K := by
  obtain ⟨ti, ht, hd⟩ := tMap
  obtain ⟨g, cur, hx, hi, hcur, hsame, hnext, hwg⟩ := hm.range hw ht hd
  have hml : m < h.next := by obtain ⟨_, es, clk, hg, _⟩ := hm; exact hw.lt hg
  have hne : m ≠ h.next := by omega
  apply x24; unfold X24
  refine ⟨some m, by rw [Hp.ld_of hc]; rfl, g, hx, fun _ h1 => ∃ sn done, MapIter en vV cur m h.next sn h1 ∧ J done h1 ∧ (done ++ (rem cur sn).map fun z => z.1.1).Perm (L.map Prod.fst),
    fun _ h1 => match h1.get h.next with
      | some (.miter _ _ sn _) => (rem cur sn).length
      | _ => 0, ⟨rfl, [], [], hi, h0 g hsame hnext hwg, by rw [rem_nil, ← hcur, List.map_map]; exact .refl _⟩, ?_⟩
  rintro bs h1 ⟨sn, done, hi1, hJ, hp⟩
  obtain ⟨r, hr, hend, hforms, hstep⟩ := hi1.next hne
  refine ⟨r, hr, fun hm => ?_, hforms, ?_⟩
  · have := hend hm
    rw [this, List.map_nil, List.append_nil] at hp
    exact fin done h1 hJ hp
  · intro a b h2 hm2
    obtain ⟨z, hz, rfl, rfl, hi2, he, hs2, hn2⟩ := hstep a b h2 hm2
    have hrs := rem_step hi1.nodup hz
    have hp2 : (done ++ z.1.1 :: (rem cur (sn ++ [z.2])).map fun z => z.1.1).Perm (L.map Prod.fst) := (List.Perm.append_left done (hrs.map _).symm).trans hp
    refine ⟨z.1.1, _, he, ?_⟩
    refine (step done z.1.1 _ h2 (stab done h1 h2 hJ hs2 hn2) hp2).mono ?_
    rintro _ h3 ⟨rfl, hJ3, hm3, hit3⟩
    refine ⟨true, rfl, rfl, ⟨sn ++ [z.2], done ++ [z.1.1], hi2.keep hm3 hit3, hJ3, by simpa using hp2⟩, ?_⟩
    obtain ⟨clk1, _, _, e1⟩ := hi1.ex
    obtain ⟨clk2, _, _, e2⟩ := hi2.ex
    rw [← hit3] at e2
    show (match h3.get h.next with
      | some (.miter _ _ sn _) => (rem cur sn).length
      | _ => 0) < (match h1.get h.next with
      | some (.miter _ _ sn _) => (rem cur sn).length
      | _ => 0)
    rw [e1, e2]
    simp only
    have := hrs.length_eq
    simp only [List.length_cons] at this
    omega

/-- appended to nothing -/
theorem appseq_spec {h : Hp} {c m : Nat} {L : List (E × β)} (hw : h.wf) (hc : h.get c = some (.row [.map (some m)] 1 false)) (hm : MapIs en vV L m h [m]) (hL : L.length ≤ 1073741824) :
    XCalls Try.prog 25 [.slc none 0 true, .fn (.func 24) [] [.ptr (some (c, 0))]] h fun v h' => ∃ (a : Option (Nat × Nat)) (f : Bool) (done : List E) (F : List Nat), v = .slc a L.length f ∧ done.Perm (L.map Prod.fst) ∧ Own 1 a L.length (done.map fun k => [en k]) h' F ∧
      (∀ j, j < h.next → h'.get j = h.get j) ∧ h.next ≤ h'.next ∧ h'.wf ∧ ∀ j ∈ F, h.next ≤ j := by
  refine XCalls.cps fun K hK => ?_
  obtain ⟨ti, ht, hd⟩ := tSlc
  obtain ⟨ei, he, es, eb, ez⟩ := tK
  apply x25; unfold X25
  rintro h1 rfl rec hrec h2 rfl hY
  have hcl : c < h.next := hw.lt hc
  have hml : m < h.next := by obtain ⟨_, es, clk, hg, _⟩ := hm; exact hw.lt hg
  have n1 : (h.alloc (.row [.slc none 0 true] 1 false)).next = h.next + 1 := rfl
  rw [n1] at hY ⊢
  have hold : ∀ j, j < h.next → (((h.alloc (.row [.slc none 0 true] 1 false)).alloc (.dfr true)).alloc (rec .ready none)).get j = h.get j := fun j hj => by
    rw [Hp.get_alloc_ne (by simp; omega), Hp.get_alloc_ne (by simp; omega), Hp.get_alloc_ne (by omega)]
  have hp2 : (((h.alloc (.row [.slc none 0 true] 1 false)).alloc (.dfr true)).alloc (rec .ready none)).get h.next = some (.row [.slc none 0 true] 1 false) := by
    rw [Hp.get_alloc_ne (by simp; omega), Hp.get_alloc_ne (by simp), Hp.get_alloc_self]
  have hd2 : (((h.alloc (.row [.slc none 0 true] 1 false)).alloc (.dfr true)).alloc (rec .ready none)).get (h.next + 1) = some (.dfr true) := by
    rw [Hp.get_alloc_ne (by simp)]; exact Hp.get_alloc_self
  have hl2 : (((h.alloc (.row [.slc none 0 true] 1 false)).alloc (.dfr true)).alloc (rec .ready none)).get (h.next + 2) = some (rec .ready none) := Hp.get_alloc_self
  have hn2 : (((h.alloc (.row [.slc none 0 true] 1 false)).alloc (.dfr true)).alloc (rec .ready none)).next = h.next + 3 := rfl
  have hw2 : (((h.alloc (.row [.slc none 0 true] 1 false)).alloc (.dfr true)).alloc (rec .ready none)).wf := hw.alloc.alloc.alloc
  generalize ((h.alloc (.row [.slc none 0 true] 1 false)).alloc (.dfr true)).alloc (rec .ready none) = h2 at *
  have hc2 : h2.get c = some (.row [.map (some m)] 1 false) := by rw [hold c hcl]; exact hc
  have hm2 : MapIs en vV L m h2 [m] := (MapIs.rep _ _ _ _).loc _ _ _ (fun j hj => by rw [List.mem_singleton] at hj; subst hj; exact hold _ hml) hm
  refine (keys1_spec (K := fun v h' => ∃ (done : List E) (a : Option (Nat × Nat)) (f : Bool) (F : List Nat), done.Perm (L.map Prod.fst) ∧ h'.get h.next = some (.row [.slc a done.length f] 1 false) ∧ Own 1 a done.length (done.map fun k => [en k]) h' F ∧ h'.get (h.next + 2) = some (rec .ready none) ∧ h'.get (h.next + 1) = some (.dfr true) ∧
      (∀ j, j < h.next → h'.get j = h.get j) ∧ (∀ j ∈ F, h.next + 3 < j) ∧ h.next + 4 ≤ h'.next ∧ h'.wf)
    (fun done h' => ∃ a f F, h'.get h.next = some (.row [.slc a done.length f] 1 false) ∧ Own 1 a done.length (done.map fun k => [en k]) h' F ∧ h'.get (h.next + 2) = some (rec .ready none) ∧ h'.get (h.next + 1) = some (.dfr true) ∧
      (∀ j, j < h.next → h'.get j = h.get j) ∧ (∀ j ∈ F, h.next + 3 < j) ∧ h.next + 4 ≤ h'.next ∧ h'.wf) hw2 hc2 hm2 ?_ ?_ ?_ ?_).mono ?_
  · intro h' hs hn hw'
    rw [hn2] at hs hn
    exact ⟨none, true, [], by rw [hs _ (by omega)]; exact hp2, Own.nil 1 h', by rw [hs _ (by omega)]; exact hl2, by rw [hs _ (by omega)]; exact hd2, fun j hj => by rw [hs _ (by omega)]; exact hold j hj, by simp, by omega, hw'⟩
  · rintro done k rest g ⟨a, f, F, gp, go, gl, gd, gs, gF, gn, gw⟩ hperm
    rw [hn2]
    refine hY k g _ gl ⟨gl, ?_⟩
    have hlen : done.length + 1 ≤ L.length := by have := hperm.length_eq; simp at this; omega
    rintro g2 rfl
    have w2 : (g.set (h.next + 2) (rec .busy none)).wf := gw.set (by omega)
    refine ⟨a, done.length, f, by rw [Hp.ld_of (c := [.slc a done.length f]) (e := 1) (r := false) (by rw [Hp.get_set_ne (by omega)]; exact gp)]; rfl, ?_⟩
    rintro g3 rfl
    have hF3 : ∀ j ∈ F, ((g.set (h.next + 2) (rec .busy none)).alloc (.row [en k] 1 false)).get j = g.get j := fun j hj => by
      have := (Own.rep _ _ _ _).lt gw go hj
      have := gF j hj
      rw [Hp.get_alloc_ne (by simp; omega), Hp.get_set_ne (by omega)]
    have go3 := (Own.rep _ _ _ _).loc _ _ _ hF3 go
    have hx3 : ((g.set (h.next + 2) (rec .busy none)).alloc (.row [en k] 1 false)).get (g.set (h.next + 2) (rec .busy none)).next = some (.row [en k] 1 false) := Hp.get_alloc_self
    obtain ⟨g4, hx, go4, u4, w4⟩ := go3.app (f := f) (u := 35) (y := .slc (some ((g.set (h.next + 2) (rec .busy none)).next, 0)) 1 true) (news := [[en k]]) w2.alloc ht hd ht (by intro k; rw [hd]; exact fun h => by cases h) he es (by omega) ez
      (xnews_one hx3 rfl) (by simp) (by simp) (by simp; exact Nat.le_trans (Nat.mul_le_mul (show done.length + 1 ≤ 1073741824 by omega) eb) (by decide)) (by simp; omega)
    refine ⟨_, _, _, g4, hx, ?_⟩
    have keep4 : ∀ j, j < g.next → j ∉ F → j ≠ h.next + 2 → g4.get j = g.get j := fun j h1 h2 h3 => by
      rw [u4.same j (by simp; omega) h2, Hp.get_alloc_ne (by simp; omega), Hp.get_set_ne h3]
    have gp4 : g4.get h.next = some (.row [.slc a done.length f] 1 false) := by rw [keep4 _ (by omega) (fun hF => by have := gF _ hF; omega) (by omega)]; exact gp
    refine ⟨_, Hp.st_of gp4 (Nat.le_of_ble_eq_true rfl), ?_⟩
    have gl4 : g4.get (h.next + 2) = some (rec .busy none) := by
      rw [u4.same _ (by simp; omega) (fun hF => by have := gF _ hF; omega), Hp.get_alloc_ne (by simp; omega), Hp.get_set_self]
    have hn4 : g.next + 1 ≤ g4.next := u4.le
    have hF4 : h.next + 3 < g.next := by omega
    refine ⟨by rw [Hp.get_set_ne (by omega)]; exact gl4, ?_⟩
    rintro g6 rfl
    refine ⟨rfl, ⟨some (((g.set (h.next + 2) (rec .busy none)).alloc (.row [en k] 1 false)).next, 0), false, [((g.set (h.next + 2) (rec .busy none)).alloc (.row [en k] 1 false)).next], ?_, ?_, Hp.get_set_self, ?_, ?_, ?_, ?_, ?_⟩, ?_, ?_⟩
    · rw [Hp.get_set_ne (by omega), Hp.get_set_self, List.length_append]; rfl
    · rw [List.map_append, List.length_append]
      exact (Own.rep _ _ _ _).loc _ _ _ (fun j hj => by rw [List.mem_singleton] at hj; subst hj; rw [Hp.get_set_ne (by simp; omega), Hp.get_set_ne (by simp; omega)]) go4
    · rw [Hp.get_set_ne (by omega), Hp.get_set_ne (by omega), keep4 _ (by omega) (fun hF => by have := gF _ hF; omega) (by omega)]; exact gd
    · intro j hj
      rw [Hp.get_set_ne (by omega), Hp.get_set_ne (by omega), keep4 _ (by omega) (fun hF => by have := gF _ hF; omega) (by omega)]; exact gs j hj
    · intro j hj; rw [List.mem_singleton] at hj; subst hj; simp; omega
    · simp; omega
    · exact (w4.set (w4.lt gp4)).set (by simp; omega)
    · rw [Hp.get_set_ne (by omega), Hp.get_set_ne (by omega), keep4 _ (by omega) (fun hF => by have := gF _ hF; omega) (by omega)]
    · rw [Hp.get_set_ne (by omega), Hp.get_set_ne (by omega), keep4 _ (by omega) (fun hF => by have := gF _ hF; omega) (by omega)]
  · rintro done g g' ⟨a, f, F, gp, go, gl, gd, gs, gF, gn, gw⟩ hs hn
    rw [hn2] at hs
    refine ⟨a, f, F, by rw [hs _ (by omega)]; exact gp, (Own.rep _ _ _ _).loc _ _ _ (fun j hj => hs j (by have := gF j hj; omega)) go, by rw [hs _ (by omega)]; exact gl, by rw [hs _ (by omega)]; exact gd, fun j hj => by rw [hs _ (by omega)]; exact gs j hj, gF, by omega, ?_⟩
    intro q o hq
    rw [hn]
    by_cases e : q = h.next + 3
    · omega
    · rw [hs q e] at hq; exact gw _ _ hq
  · rintro done g ⟨a, f, F, gp, go, gl, gd, gs, gF, gn, gw⟩ hperm
    exact ⟨done, a, f, F, hperm, gp, go, gl, gd, gs, gF, gn, gw⟩
  · rintro v g ⟨done, a, f, F, hperm, gp, go, gl, gd, gs, gF, gn, gw⟩
    left
    refine ⟨gl, ?_⟩
    rintro g7 rfl
    have gp7 : (g.set (h.next + 2) (rec .exhausted none)).get h.next = some (.row [.slc a done.length f] 1 false) := by rw [Hp.get_set_ne (by omega)]; exact gp
    refine ⟨a, done.length, f, by rw [Hp.ld_of gp7]; rfl, _, shut_one (by rw [Hp.get_set_ne (by omega)]; exact gd), ?_⟩
    have hlen : done.length = L.length := by have := hperm.length_eq; simpa using this
    refine hK _ _ ⟨a, f, done, F, by rw [hlen], hperm, ?_, ?_, by simp; omega, (gw.set (by omega)).set (by simp; omega), fun j hj => by have := gF j hj; omega⟩
    · rw [← hlen]
      exact (Own.rep _ _ _ _).loc _ _ _ (fun j hj => by have := gF j hj; rw [Hp.get_set_ne (by omega), Hp.get_set_ne (by omega)]) go
    · intro j hj
      rw [Hp.get_set_ne (by omega), Hp.get_set_ne (by omega)]; exact gs j hj

/-- slices.Sorted(maps.Keys(m)), behind maps.Keys -/
theorem sorted_spec {h : Hp} {c m : Nat} {L : List (E × β)} (hw : h.wf) (hc : h.get c = some (.row [.map (some m)] 1 false)) (hm : MapIs en vV L m h [m]) (hL : L.length ≤ 1073741824) :
    XCalls Try.prog 20 [.fn (.func 24) [] [.ptr (some (c, 0))]] h fun v h' => ∃ (a : Option (Nat × Nat)) (f : Bool) (l : List E) (F : List Nat), v = .slc a L.length f ∧ l.Perm (L.map Prod.fst) ∧ Rising l ∧ Own 1 a L.length (l.map fun k => [en k]) h' F ∧
      (∀ j, j < h.next → h'.get j = h.get j) ∧ h.next ≤ h'.next ∧ h'.wf ∧ ∀ j ∈ F, h.next ≤ j := by
  apply x20; unfold X20
  apply x22; unfold X22
  refine (appseq_spec hw hc hm hL).mono ?_
  rintro _ h1 ⟨a, f, done, F, rfl, hp, ho, hs, hn, hw1, hF⟩
  refine ⟨_, _, _, rfl, _, _, _, rfl, ?_⟩
  refine (sort_own hw1 ho hL).mono ?_
  rintro _ h2 ⟨rfl, l, hp2, hr, ho2, hs2, hn2, hw2⟩
  exact ⟨a, f, l, F, rfl, hp2.trans hp, hr, ho2, fun j hj => by rw [hs2 j (fun h => by have := hF j h; omega) (by omega)]; exact hs j hj, by omega, hw2, hF⟩

/-- maps.Keys -/
theorem keys_spec {h : Hp} (m : Option Nat) : XCalls Try.prog 21 [.map m] h fun v h' => v = .fn (.func 24) [] [.ptr (some (h.next, 0))] ∧ h' = h.alloc (.row [.map m] 1 false) := by
  apply x21; unfold X21
  rintro h1 rfl
  exact ⟨rfl, rfl⟩
end
end Go.Vex.Sort
