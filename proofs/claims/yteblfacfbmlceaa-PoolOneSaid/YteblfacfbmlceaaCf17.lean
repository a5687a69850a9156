/-
  The contract of a pool's Held (layer 17).
-/
import Derived.Test.YteblfacfbmlceaaVexGG
import Derived.Test.YteblfacfbmlceaaTab17
import Derived.Test.YteblfacfbmlceaaXa17
import Derived.Test.YteblfacfbmlceaaCa17
import Derived.Test.YteblfacfbmlceaaCb17
import Derived.Test.YteblfacfbmlceaaXc17
import Derived.Test.YteblfacfbmlceaaCc17
import Derived.Test.YteblfacfbmlceaaXs17
import Derived.Test.YteblfacfbmlceaaXk17
import Derived.Test.YteblfacfbmlceaaCsa17
import Derived.Test.YteblfacfbmlceaaCsb17
import Derived.Test.YteblfacfbmlceaaCsc17
import Derived.Test.YteblfacfbmlceaaCsd17
import Derived.Test.YteblfacfbmlceaaCse17
import Derived.Test.YteblfacfbmlceaaXg17
set_option linter.unusedVariables false
set_option linter.unusedSimpArgs false
namespace Go.Vex
open Go.Proofs

/-- is the buffer of a number one's? -/
def isHis (C : List B3) (who : List UInt8) (id : Int) : Bool := match cfind C id with
  | some x => x.2.1 == who
  | none => false

theorem filter_take_succ {l : List Int} {k : Nat} {x : Int} (hx : l[k]? = some x) (p : Int → Bool) : (l.take (k + 1)).filter p = (l.take k).filter p ++ if p x then [x] else [] := by
  rw [List.take_add_one, hx, List.filter_append]
  congr 1
  simp only [Option.toList_some, List.filter_cons, List.filter_nil]

theorem held_spec {h : Hp} {F : List Nat} {p : Nat} {most last : Int} {who : List UInt8} {L : List Buf} (hw : h.wf) (r : PoolR p most last L h F) (hnd : (L.map Buf.id).Nodup) (hl : L.length ≤ 4096) :
    XCalls Try.prog 20 [.ptr (some (p, 0)), .str who] h fun v h' => ∃ (a : Option (Nat × Nat)) (f : Bool) (l : List Int) (G : List Nat), v = .slc a l.length f ∧ l.Perm ((L.map Buf.id).filter (isHis (L.map Buf.con) who)) ∧ l.Pairwise (· < ·) ∧ Own 1 a l.length (l.map fun x => [V.int .u64 x]) h' G ∧
      (∀ j, j < h.next → h'.get j = h.get j) ∧ (∀ j ∈ G, h.next ≤ j) ∧ h.next ≤ h'.next ∧ h'.wf := by
  have r0 := r
  obtain ⟨m, h1, h2, h3, rfl, h5⟩ := r
  have hlt : ∀ j ∈ p :: m :: L.map Buf.o, j < h.next := fun j hj => (PoolR.rep p most last L).lt hw r0 hj
  refine XCalls.cps fun K hK => ?_
  apply x20; unfold X20
  refine ⟨some m, by rw [Hp.ld_of h1]; rfl, ?_⟩
  refine (Sort.keys_spec (some m)).mono ?_
  rintro _ g1 ⟨rfl, rfl⟩
  refine ⟨_, rfl, ?_⟩
  have hs1 : ∀ j, j < h.next → (h.alloc (.row [.map (some m)] 1 false)).get j = h.get j := fun j hj => Hp.get_alloc_ne (by omega)
  have m1 : MapIs Sort.en vP (L.map fun x => (x.id, x.o)) m (h.alloc (.row [.map (some m)] 1 false)) [m] := (MapIs.rep _ _ _ _).stay hw h2 hs1
  refine (Sort.sorted_spec hw.alloc Hp.get_alloc_self m1 (by rw [List.length_map]; omega)).mono ?_
  rintro _ g2 ⟨a, f, S, G, rfl, hp, hri, ho, hs, hn, wf2, hG⟩
  rw [List.length_map] at ho
  rw [List.map_map] at hp
  have hpS : S.Perm (L.map Buf.id) := hp
  have hSl : S.length = L.length := by have := hpS.length_eq; simpa using this
  have hSn : S.Nodup := hpS.nodup_iff.2 hnd
  have hSs : S.Pairwise (· < ·) := by
    have h1 : S.Pairwise (fun x y => ¬ y < x) := List.Pairwise.imp (fun {a b} h => by
      have h : ltI b a = false := h
      rw [ltI_eq, decide_eq_false_iff_not] at h; exact h) hri
    exact (h1.and hSn).imp fun {a b} ⟨h1, h2⟩ => Int.lt_iff_le_and_ne.2 ⟨Int.not_lt.1 h1, h2⟩
  refine ⟨a, _, f, rfl, ?_⟩
  rw [List.length_map]
  have hs0 : ∀ j, j < h.next → g2.get j = h.get j := fun j hj => by rw [hs j (Nat.lt_succ_of_lt hj), hs1 j hj]
  have hn0 : h.next ≤ g2.next := Nat.le_trans (Nat.le_succ _) hn
  refine ⟨fun vs g => match vs with
    | [.slc a2 n2 _, .int _ i] => ∃ (k : Nat) (G2 : List Nat), i = k ∧ k ≤ L.length ∧ n2 = ((S.take k).filter (isHis (L.map Buf.con) who)).length ∧ Own 1 a2 n2 (((S.take k).filter (isHis (L.map Buf.con) who)).map fun x => [V.int .u64 x]) g G2 ∧
        (∀ j, j < g2.next → g.get j = g2.get j) ∧ (∀ j ∈ G2, g2.next ≤ j) ∧ g2.next ≤ g.next ∧ g.wf
    | _ => False, fun vs _ => match vs with
    | [_, .int _ i] => L.length - i.toNat
    | _ => 0, ⟨(by trivial), 0, [], rfl, Nat.zero_le _, rfl, Own.nil _ _, fun _ _ => rfl, by simp, Nat.le_refl _, wf2⟩, ?_⟩
  rintro bs a2 n2 f2 i g ⟨k, G2, rfl, hk, rfl, ho2, hsg, hG2, hng, wfg⟩
  have hw1 : k < 5000 → IntKind.i64.wrap ((k : Int) + 1) = ((k + 1 : Nat) : Int) := fun h => wrap_succ (n := 5000) (by omega) (by omega)
  cases c : ltI (↑k) (↑L.length) with
  | false =>
    rw [ltI_eq, decide_eq_false_iff_not] at c
    have e : (S.take k).filter (isHis (L.map Buf.con) who) = S.filter (isHis (L.map Buf.con) who) := by rw [List.take_of_length_le (by omega)]
    rw [e] at ho2 ⊢
    exact hK _ _ ⟨a2, f2, _, G2, rfl, hpS.filter _, hSs.filter _, ho2, fun j hj => by rw [hsg j (by omega)]; exact hs0 j hj, fun j hj => by have := hG2 j hj; omega, by omega, wfg⟩
  | true =>
    rw [ltI_eq, decide_eq_true_eq] at c
    have hw1 := hw1 (by omega)
    have hk' : k < S.length := by omega
    obtain ⟨q, o, row, rfl, hrow, _, hld, _⟩ := ((Own.rep _ _ _ _).stay wf2 ho hsg).ld (k := k) (by omega)
    rw [List.getElem?_map, List.getElem?_eq_getElem hk'] at hrow
    cases hrow
    have hSk : S[k]? = some S[k] := List.getElem?_eq_getElem hk'
    generalize hx : S[k] = x at hSk hld
    have hxm : x ∈ L.map Buf.id := hpS.subset (hx ▸ List.getElem_mem hk')
    obtain ⟨b, hb, rfl⟩ := List.mem_map.1 hxm
    have hbf := bfind_self hnd hb
    have hgs : ∀ j, j < h.next → g.get j = h.get j := fun j hj => by rw [hsg j (by omega)]; exact hs0 j hj
    have hpg : g.get p = some (poolRow most last m) := by rw [hgs p (hlt p (by simp))]; exact h1
    have hmg : MapIs kI vP (L.map fun x => (x.id, x.o)) m g [m] := (MapIs.rep _ _ _ _).stay hw h2 hgs
    have hbg : g.get b.o = some b.row := by rw [hgs b.o (hw.lt (h3 b hb))]; exact h3 b hb
    have hlk := PoolR.look (p := p) (most := most) (last := last) (F := []) hmg b.id
    rw [hbf] at hlk
    have dec : L.length - Int.toNat (IntKind.i64.wrap ((k : Int) + 1)) < L.length - Int.toNat (k : Int) := by
      rw [hw1]; simp only [Int.toNat_natCast]; omega
    refine ⟨⟨by omega, c⟩, b.id, hld 0 (by omega), some m, by rw [Hp.ld_of hpg]; rfl, _, hlk, b.who, by rw [Hp.ld_of hbg]; rfl, ?_⟩
    have hih : isHis (L.map Buf.con) who b.id = (b.who == who) := by unfold isHis; rw [cfind_con, hbf]; rfl
    have hft := filter_take_succ hSk (isHis (L.map Buf.con) who)
    rw [hih] at hft
    cases hbw : b.who == who with
    | false =>
      rw [hbw] at hft
      simp only [Bool.false_eq_true, if_false, List.append_nil] at hft
      refine ⟨(by trivial), ⟨k + 1, G2, hw1, by omega, by rw [hft], by rw [hft]; exact ho2, hsg, hG2, hng, wfg⟩, dec⟩
    | true =>
      rw [hbw] at hft
      simp only [if_true] at hft
      rintro g3 rfl
      obtain ⟨ti, ht, hd⟩ := t31s
      obtain ⟨ei, he, hsz, hby, hzk⟩ := t28s
      have hst : ∀ j, j < g.next → (g.alloc (.row [.int .u64 b.id] 1 false)).get j = g.get j := fun j hj => Hp.get_alloc_ne (by omega)
      have ho3 := (Own.rep _ _ _ _).stay wfg ho2 hst
      have hfl : ((S.take k).filter (isHis (L.map Buf.con) who)).length ≤ 4096 := Nat.le_trans (List.length_filter_le _ _) (by rw [List.length_take]; omega)
      obtain ⟨g4, hx4, ho4, u4, w4⟩ := ho3.app (f := f2) wfg.alloc ht hd ht (fun k e => by rw [hd] at e; cases e) he hsz (by omega) hzk (xnews_one Hp.get_alloc_self rfl) (by simp) (by simp) (by rw [hby]; simp only [List.length_singleton]; omega) (by simp only [List.length_singleton]; omega)
      refine ⟨_, _, _, g4, hx4, (by trivial), ⟨k + 1, [(g.alloc (.row [.int .u64 b.id] 1 false)).next], hw1, by omega, by rw [hft, List.length_append]; rfl, ?_, fun j hj => ?_, fun j hj => ?_, ?_, w4⟩, dec⟩
      · rw [hft, List.map_append]; exact ho4
      · rw [u4.same j (by rw [Hp.alloc_next]; omega) (fun h => by have := hG2 j h; omega), hst j (by omega)]; exact hsg j hj
      · rw [List.mem_singleton, Hp.alloc_next] at hj; omega
      · have := u4.le; rw [Hp.alloc_next] at this; omega
end Go.Vex
