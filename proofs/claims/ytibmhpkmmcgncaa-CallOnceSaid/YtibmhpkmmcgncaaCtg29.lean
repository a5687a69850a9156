/-
  Contracts of call.Table: Close, Free.
-/
import Derived.Test.YtibmhpkmmcgncaaVexGG
import Derived.Test.YtibmhpkmmcgncaaTab29
import Derived.Test.YtibmhpkmmcgncaaXp29
import Derived.Test.YtibmhpkmmcgncaaCpa29
import Derived.Test.YtibmhpkmmcgncaaCpb29
import Derived.Test.YtibmhpkmmcgncaaCpc29
import Derived.Test.YtibmhpkmmcgncaaCpd29
import Derived.Test.YtibmhpkmmcgncaaXta29
import Derived.Test.YtibmhpkmmcgncaaCta29
import Derived.Test.YtibmhpkmmcgncaaXtb29
import Derived.Test.YtibmhpkmmcgncaaCtb29
import Derived.Test.YtibmhpkmmcgncaaCtc29
import Derived.Test.YtibmhpkmmcgncaaXtf29
set_option linter.unusedVariables false
set_option linter.unusedSimpArgs false
namespace Go.Vex.Call
open Go.Proofs
open Go.Vex.Ports (PortsR Bd bV bL b0 bindCode Quiet without)

def sdel (S : List Sk) (id : Int) : List Sk := S.filter fun x => decide (x.id ≠ id)

theorem mdel_sk : ∀ (S : List Sk) (id : Int), (S.map Sk.id).Nodup → mdel (S.map fun x => (x.id, x.o)) id = (sdel S id).map fun x => (x.id, x.o)
  | [], _, _ => rfl
  | x :: L, id, hn => by
    rw [List.map_cons, List.nodup_cons] at hn
    simp only [List.map_cons, mdel, sdel, List.filter_cons]
    by_cases e : id = x.id
    · subst e
      simp only [if_true, ne_eq, not_true_eq_false, decide_false, Bool.false_eq_true, if_false]
      congr 1
      symm
      apply List.filter_eq_self.2
      intro y hy
      simp only [decide_eq_true_eq]
      exact fun e => hn.1 (by rw [← e]; exact List.mem_map_of_mem hy)
    · have e' : x.id ≠ id := fun h => e h.symm
      simp only [e, if_false, ne_eq, e', not_false_eq_true, decide_true, if_true, List.map_cons]
      rw [mdel_sk L id hn.2]
      rfl

section
variable {h : Hp} {t : Nat} {s : TS} {F : List Nat}

theorem close_spec {fd : Int} (hw : h.wf) (r : TblR t s h F) : XCalls Try.prog 20 [.ptr (some (t, 0)), .int .i64 fd] h fun v h' => v = .tup [fV ((mget s.A fd).getD f0), .int .i64 (if (mget s.A fd).isSome then 0 else 290)] ∧ TblR t { s with A := if (mget s.A fd).isSome then mdel s.A fd else s.A } h' F ∧ Upd h h' F F ∧ h'.wf := by
  obtain ⟨mf, ms, po, G, GP, a, f, at0, rfl⟩ := r
  have lt0 := at0.lt hw
  refine XCalls.cps fun K hK => ?_
  apply x20; unfold X20
  rintro g1 rfl
  have q1 : Quiet h (h.alloc (.row [.int .u8 0, .int .u8 0, .int .u64 0, .bool false] 1 false)) := Ports.Quiet.alloc hw _
  have hn1 : (h.alloc (.row [.int .u8 0, .int .u8 0, .int .u64 0, .bool false] 1 false)).next = h.next + 1 := rfl
  have hr1 : (h.alloc (.row [.int .u8 0, .int .u8 0, .int .u64 0, .bool false] 1 false)).get h.next = some (.row [.int .u8 0, .int .u8 0, .int .u64 0, .bool false] 1 false) := Hp.get_alloc_self
  generalize h.alloc (.row [.int .u8 0, .int .u8 0, .int .u64 0, .bool false] 1 false) = g1 at q1 hn1 hr1
  have at1 := at0.loc fun j hj => q1.same j (lt0 j hj)
  obtain ⟨oF, hF, moF⟩ := at1.files
  have hlk := moF.look2 mtF fd _ mf hF
  rw [lookV_getD] at hlk
  refine ⟨some mf, by rw [Hp.ld_of at1.row]; rfl, ?_⟩
  simp only [Option.isNone_some, cond_false]
  refine ⟨some mf, by rw [Hp.ld_of at1.row]; rfl, _, _, _, _, _, hlk, ?_⟩
  generalize hff : (mget s.A fd).getD f0 = ff
  rw [hff] at hK
  rintro g2 rfl
  refine ⟨_, Hp.st_of Hp.get_alloc_self (Nat.le_of_ble_eq_true rfl), ?_⟩
  generalize hg3 : (g1.alloc _).set g1.next _ = g3
  have hrow3 : g3.get g1.next = some (.row [.int .u8 ff.kind, .int .u8 ff.proto, .int .u64 ff.id, .bool ff.calm] 1 false) := by rw [← hg3]; exact Hp.get_set_self
  have hs3 : ∀ j, j < g1.next → g3.get j = g1.get j := fun j hj => by rw [← hg3, Hp.get_set_ne (by omega), Hp.get_alloc_ne (by omega)]
  have wf3 : g3.wf := by rw [← hg3]; exact q1.wf.alloc.set (by simp [Hp.alloc_next])
  have hn3 : g3.next = g1.next + 1 := by rw [← hg3]; rfl
  clear hg3
  have q3 : Quiet h g3 := ⟨fun j hj => by rw [hs3 j (by omega)]; exact q1.same j hj, by omega, wf3⟩
  have hr3 : g3.get h.next = some (.row [.int .u8 0, .int .u8 0, .int .u64 0, .bool false] 1 false) := by rw [hs3 _ (by omega)]; exact hr1
  have at3 := at0.loc fun j hj => q3.same j (lt0 j hj)
  cases hm : mget s.A fd with
  | none =>
    rw [hm] at hff hK
    simp only [Option.getD_none] at hff
    subst hff
    simp only [Option.isSome_none, Bool.not_false, cond_true]
    refine ⟨_, Hp.st_of hr3 (Nat.le_of_ble_eq_true rfl), 0, 0, 0, false, by rw [Hp.lda_of Hp.get_set_self (Nat.le_of_ble_eq_true rfl)]; rfl, hK _ _ ⟨rfl, ⟨mf, ms, po, G, GP, a, f, at0.loc fun j hj => ?_, rfl⟩, ⟨fun j hj hF => ?_, fun j hj => .inl hj, by simp only [Hp.set_next]; omega⟩, wf3.set (by omega)⟩⟩
    · rw [Hp.get_set_ne (by have := lt0 j hj; omega)]; exact q3.same j (lt0 j hj)
    · rw [Hp.get_set_ne (by omega)]; exact q3.same j hj
  | some f1 =>
    rw [hm] at hff hK
    simp only [Option.getD_some] at hff
    subst hff
    simp only [Option.isSome_some, Bool.not_true, cond_false]
    obtain ⟨oF3, hF3, moF3⟩ := at3.files
    obtain ⟨o', mo', hdel⟩ := moF3.del mtF fd
    have hmf : mf < h.next := lt0 mf (by simp)
    refine ⟨some mf, by rw [Hp.ld_of at3.row]; rfl, _, hdel g3 mf hF3, f1.kind, f1.proto, f1.id, f1.calm, ?_, ?_⟩
    · rw [Hp.lda_of (show (g3.set mf o').get g1.next = _ from (Hp.get_set_ne (by omega)).trans hrow3) (Nat.le_of_ble_eq_true rfl)]; rfl
    refine ⟨_, Hp.st_of (show (g3.set mf o').get h.next = _ from (Hp.get_set_ne (by omega)).trans hr3) (Nat.le_of_ble_eq_true rfl), f1.kind, f1.proto, f1.id, f1.calm, by rw [Hp.lda_of Hp.get_set_self (Nat.le_of_ble_eq_true rfl)]; rfl, hK _ _ ⟨rfl, ⟨mf, ms, po, G, GP, a, f, (at3.setFiles mo').loc fun j hj => ?_, rfl⟩, ⟨fun j hj hF => ?_, fun j hj => .inl hj, by simp only [Hp.set_next]; omega⟩, (wf3.set (by omega)).set (by simp only [Hp.set_next]; omega)⟩⟩
    · rw [Hp.get_set_ne (by have := lt0 j hj; omega)]
    · rw [Hp.get_set_ne (by omega), Hp.get_set_ne (fun e => hF (by simp [e]))]; exact q3.same j hj

theorem free_spec {id : Int} (hw : h.wf) (r : TblR t s h F) (hid : (s.S.map Sk.id).Nodup) (hP : (s.P.map Prod.fst).Nodup) (hl : s.P.length ≤ 100000) : XCalls Try.prog 21 [.ptr (some (t, 0)), .int .u64 id] h fun v h' => h'.wf ∧
    if (sfind s.S id).isSome then v = .bool true ∧ ∃ F', (∀ j ∈ F', j ∈ F) ∧ TblR t { s with S := sdel s.S id, P := without s.P [id] } h' F' ∧ Upd h h' F F'
    else v = .bool false ∧ TblR t s h' F ∧ Upd h h' F F := by
  have r0 := r
  obtain ⟨mf, ms, po, G, GP, a, f, at0, hFe⟩ := r
  have lt0 := at0.lt hw
  have ap := apart at0.nd
  refine XCalls.cps fun K hK => ?_
  apply x21; unfold X21
  obtain ⟨oS, hS, moS⟩ := at0.socks
  have hlS := moS.look mtS id h ms hS
  rw [mget_sk] at hlS
  refine ⟨some ms, by rw [Hp.ld_of at0.row]; rfl, (sfind s.S id).map fun x => (x.o, 0), by rw [hlS]; cases sfind s.S id <;> rfl, ?_⟩
  cases hsf : sfind s.S id with
  | none =>
    rw [hsf] at hK
    simp only [Option.map_none, Option.isNone_none, cond_true]
    exact hK _ _ ⟨hw, rfl, r0, Upd.refl _ _⟩
  | some x =>
    rw [hsf] at hK
    simp only [Option.map_some, Option.isNone_some, cond_false]
    obtain ⟨o', mo', hdel⟩ := moS.del mtS id
    rw [mdel_sk s.S id hid] at mo'
    refine ⟨some ms, by rw [Hp.ld_of at0.row]; rfl, _, hdel h ms hS, ?_⟩
    have hms : ms < h.next := lt0 ms (by simp)
    have row1 : (h.set ms o').get t = _ := (Hp.get_set_ne ap.ts).trans at0.row
    refine ⟨some (po, 0), by rw [Hp.ld_of row1]; rfl, ?_⟩
    rintro g2 rfl
    have wf1 : (h.set ms o').wf := hw.set hms
    have hst : ∀ j, j < h.next → j ≠ ms → ((h.set ms o').alloc (.row [.int .u64 id] 1 false)).get j = h.get j := fun j hj hne => by rw [Hp.get_alloc_ne (by simp only [Hp.set_next]; omega), Hp.get_set_ne hne]
    have p2 : PortsR po s.P ((h.set ms o').alloc (.row [.int .u64 id] 1 false)) GP := (PortsR.rep _ _).loc _ _ _ (fun j hj => hst j (lt0 j (by simp [hj])) fun e => ap.sP (e ▸ hj)) at0.ports
    have hrd : Ports.Rd (some (h.next, 0)) 1 [id] ((h.set ms o').alloc (.row [.int .u64 id] 1 false)) := by
      refine ⟨rfl, fun hn => ?_⟩
      exact ⟨h.next, 0, _, _, _, rfl, Hp.get_alloc_self, fun k hk => by
        obtain rfl : k = 0 := by omega
        rfl⟩
    refine (Ports.give_spec (a := some (h.next, 0)) (n := 1) (xs := [id]) wf1.alloc p2 hP (by omega) hrd (by omega) (fun q o e => by
      cases e
      intro hm; have := lt0 h.next (by simp [hm]); omega)).mono ?_
    rintro _ g3 ⟨rfl, p3, u3, wf3⟩
    refine ⟨_, rfl, ?_⟩
    have hsub : ∀ j ∈ (sdel s.S id).map Sk.o, j ∈ s.S.map Sk.o := fun j hj => by
      obtain ⟨y, hy, rfl⟩ := List.mem_map.1 hj
      exact List.mem_map_of_mem (List.mem_filter.1 hy).1
    have hs3 : ∀ j, j < h.next → j ≠ ms → j ∉ GP → g3.get j = h.get j := fun j hj hne hn => by rw [u3.same j (by simp only [Hp.alloc_next, Hp.set_next]; omega) hn]; exact hst j hj hne
    refine hK _ _ ⟨wf3, rfl, t :: mf :: ms :: ((sdel s.S id).map Sk.o ++ (G ++ GP)), fun j hj => ?_, ⟨mf, ms, po, G, GP, a, f, ⟨?_, ?_, ?_, ?_, fun y hy => ?_, p3, ?_⟩, rfl⟩, ⟨fun j hj hF => ?_, fun j hj => .inl ?_, ?_⟩⟩
    · rw [hFe]
      simp only [List.mem_cons, List.mem_append] at hj ⊢
      rcases hj with h | h | h | h | h
      · exact .inl h
      · exact .inr (.inl h)
      · exact .inr (.inr (.inl h))
      · exact .inr (.inr (.inr (.inl (hsub j h))))
      · exact .inr (.inr (.inr (.inr h)))
    · rw [hs3 t (lt0 t (by simp)) ap.ts ap.tP]; exact at0.row
    · exact (Own.rep _ _ _ _).loc _ _ _ (fun j hj => hs3 j (lt0 j (by simp [hj])) (fun e => ap.sG (e ▸ hj)) (ap.GP j hj)) at0.own
    · obtain ⟨o, h1, h2⟩ := at0.files
      exact ⟨o, by rw [hs3 mf (lt0 mf (by simp)) ap.fs ap.fP]; exact h1, h2⟩
    · exact ⟨o', by rw [u3.same ms (by simp only [Hp.alloc_next, Hp.set_next]; omega) ap.sP, Hp.get_alloc_ne (by simp only [Hp.set_next]; omega)]; exact Hp.get_set_self, mo'⟩
    · have hy' := (List.mem_filter.1 hy).1
      have hm : y.o ∈ s.S.map Sk.o := List.mem_map_of_mem hy'
      rw [hs3 y.o (lt0 _ (by simp; exact .inr (.inr (.inr (.inl ⟨y, hy', rfl⟩))))) (fun e => ap.sO (e ▸ hm)) (ap.OP _ hm)]
      exact at0.desks y hy'
    · refine at0.nd.sublist ?_
      exact ((List.Sublist.append (List.Sublist.map _ List.filter_sublist) (List.Sublist.refl _)).cons_cons ms).cons_cons mf |>.cons_cons t
    · rw [hFe] at hF
      simp only [List.mem_cons, List.mem_append, not_or] at hF
      rw [hs3 j hj hF.2.2.1 hF.2.2.2.2.2]
    · rw [hFe]
      simp only [List.mem_cons, List.mem_append] at hj ⊢
      rcases hj with h | h | h | h | h
      · exact .inl h
      · exact .inr (.inl h)
      · exact .inr (.inr (.inl h))
      · exact .inr (.inr (.inr (.inl (hsub j h))))
      · exact .inr (.inr (.inr (.inr h)))
    · have := u3.le
      simp only [Hp.alloc_next, Hp.set_next] at this; omega

end
end Go.Vex.Call
