/-
  The contract of a pool's Give (layer 17).
-/
import Derived.Test.YteblfacfbmlceaaVexAA
import Derived.Test.YteblfacfbmlceaaTab17
import Derived.Test.YteblfacfbmlceaaXa17
import Derived.Test.YteblfacfbmlceaaCa17
set_option linter.unusedVariables false
set_option linter.unusedSimpArgs false
namespace Go.Vex
open Go.Proofs

/-- a slice of numbers that can be read, outside of F -/
def IntsAt (κ : IntKind) (a : Option (Nat × Nat)) (n : Nat) (xs : List Int) (h : Hp) (F : List Nat) : Prop :=
  xs.length = n ∧ (0 < n → ∃ q o c e ro, a = some (q, o) ∧ q ∉ F ∧ h.get q = some (.row c e ro) ∧ ∀ k, k < n → c[o + k]? = (xs[k]?).map (V.int κ))

theorem IntsAt.at {κ : IntKind} {a : Option (Nat × Nat)} {n : Nat} {xs : List Int} {h h' : Hp} {F : List Nat} (i : IntsAt κ a n xs h F) (hs : ∀ j o, h.get j = some o → j ∉ F → h'.get j = some o) {k : Nat} (hk : k < n) :
    ∃ q o x, a = some (q, o) ∧ xs[k]? = some x ∧ h'.ld q (o + k * 1) = some (.int κ x) := by
  obtain ⟨h1, h2⟩ := i
  obtain ⟨q, o, c, e, ro, rfl, hq, hg, hc⟩ := h2 (by omega)
  have hx : xs[k]? = some (xs[k]'(by omega)) := List.getElem?_eq_getElem (by omega)
  refine ⟨q, o, _, rfl, hx, ?_⟩
  rw [Hp.ld_of (hs q _ hg hq), Nat.mul_one, hc k hk, hx]
  rfl

def giveCode (L : List Buf) (who : List UInt8) : List Int → List Int → Int
  | _, [] => 0
  | seen, i :: r => if i ∈ seen then 5 else if ofCode L i who = 0 then giveCode L who (seen ++ [i]) r else ofCode L i who

def bdel (L : List Buf) (id : Int) : List Buf := L.filter fun x => decide (x.id ≠ id)

theorem mdel_buf : ∀ (L : List Buf) (id : Int), (L.map Buf.id).Nodup → mdel (L.map fun x => (x.id, x.o)) id = (bdel L id).map fun x => (x.id, x.o)
  | [], _, _ => rfl
  | x :: L, id, hn => by
    rw [List.map_cons, List.nodup_cons] at hn
    simp only [List.map_cons, mdel, bdel, List.filter_cons]
    by_cases e : id = x.id
    · subst e
      simp only [if_true, ne_eq, not_true_eq_false, decide_false, Bool.false_eq_true, if_false]
      congr 1
      symm
      apply List.filter_eq_self.2
      intro y hy
      simp only [decide_eq_true_eq]
      exact fun e => hn.1 (by rw [← e]; exact List.mem_map_of_mem hy)
    · have e' : x.id ≠ id := fun h => e h.symm
      simp only [e, if_false, ne_eq, e', not_false_eq_true, decide_true, if_true, List.map_cons]
      rw [mdel_buf L id hn.2]
      rfl

theorem wrap_succ {k n : Nat} (h : k < n) (hn : n ≤ 9223372036854775807) : IntKind.i64.wrap ((k : Int) + 1) = ((k + 1 : Nat) : Int) := by
  rw [wrap_of (by simp [IntKind.min, IntKind.max, IntKind.signed, IntKind.bits]; omega)]; rfl

theorem t32 : ∃ ti, T 32 = some ti ∧ ti.d = .map 28 3 := ⟨_, rfl, rfl⟩
theorem t3 : ∃ ei, T 3 = some ei ∧ ei.zero = some (.int .i64 0) := ⟨_, rfl, rfl⟩
def kC : Int → V := fun n => .int .i64 n

theorem mget_ones (l : List Int) (i : Int) : mget (l.map fun x => (x, (1 : Int))) i = if i ∈ l then some 1 else none := by
  induction l with
  | nil => rfl
  | cons x l ih =>
    simp only [mget, List.map_cons, List.find?_cons] at ih ⊢
    by_cases e : i = x
    · simp [e]
    · simp only [e, decide_false, List.mem_cons, false_or]
      exact ih

theorem bdel_sub {L : List Buf} {id : Int} : ∀ x ∈ bdel L id, x ∈ L := fun x hx => (List.mem_filter.1 hx).1

theorem bdel_nodup {γ : Type} {f : Buf → γ} {L : List Buf} {id : Int} (h : (L.map f).Nodup) : ((bdel L id).map f).Nodup := h.sublist (List.Sublist.map f List.filter_sublist)

/-- a buffer is given back -/
theorem PoolR.del {h : Hp} {F : List Nat} {p : Nat} {most last : Int} {L : List Buf} (hw : h.wf) (r : PoolR p most last L h F) (hid : (L.map Buf.id).Nodup) (id : Int) :
    ∃ m h', h.ld p 2 = some (.map (some m)) ∧ xdel T h 58 (.map (some m)) (.int .u64 id) = some h' ∧ ∃ F', PoolR p most last (bdel L id) h' F' ∧ Upd h h' F F' ∧ (∀ j ∈ F', j ∈ F) ∧ h'.wf ∧ h'.next = h.next := by
  obtain ⟨m, h1, h2, h3, rfl, h5⟩ := r
  obtain ⟨ti, ht, hd⟩ := t58
  obtain ⟨h', hx, hm, hs, hn⟩ := h2.del kI28 ht hd id
  have hpm : p ≠ m := fun e => (List.nodup_cons.1 h5).1 (by simp [e])
  have hmL : ∀ x ∈ L, x.o ≠ m := fun x hx e => (List.nodup_cons.1 (List.nodup_cons.1 h5).2).1 (by rw [← e]; exact List.mem_map_of_mem hx)
  have hsub : ∀ j ∈ p :: m :: (bdel L id).map Buf.o, j ∈ p :: m :: L.map Buf.o := by
    intro j hj
    simp only [List.mem_cons] at hj ⊢
    rcases hj with hj | hj | hj
    · exact .inl hj
    · exact .inr (.inl hj)
    · obtain ⟨x, hx, rfl⟩ := List.mem_map.1 hj
      exact .inr (.inr (List.mem_map_of_mem (bdel_sub x hx)))
  refine ⟨m, h', by rw [Hp.ld_of h1]; rfl, hx, _, ⟨m, by rw [hs p hpm]; exact h1, by rw [← mdel_buf L id hid]; exact hm, fun x hx => by rw [hs _ (hmL x (bdel_sub x hx))]; exact h3 x (bdel_sub x hx), rfl, ?_⟩,
    ⟨fun j hj hF => hs j fun e => hF (by simp [e]), fun j hj => .inl (hsub j hj), by rw [hn]; exact Nat.le_refl _⟩, hsub, ?_, hn⟩
  · refine h5.sublist ?_
    exact List.Sublist.cons_cons p (List.Sublist.cons_cons m (List.Sublist.map _ List.filter_sublist))
  · intro q o hq
    rw [hn]
    by_cases e : q = m
    · subst e
      obtain ⟨o', ho, _⟩ := (MapIs.rep _ _ _ _).dom h _ h2 q (by simp)
      exact hw _ _ ho
    · rw [hs q e] at hq; exact hw _ _ hq

theorem give_spec {h : Hp} {F : List Nat} {p : Nat} {most last : Int} {who : List UInt8} {L : List Buf} {a : Option (Nat × Nat)} {n : Nat} {f : Bool} {xs : List Int} (hw : h.wf) (r : PoolR p most last L h F) (hid : (L.map Buf.id).Nodup)
    (hi : IntsAt .u64 a n xs h F) (hn : n ≤ 4611686018427387904) :
    XCalls Try.prog 12 [.ptr (some (p, 0)), .str who, .slc a n f] h fun v h' => v = .int .i64 (giveCode L who [] xs) ∧ ∃ F', Upd h h' F F' ∧ PoolR p most last (if giveCode L who [] xs = 0 then xs.foldl bdel L else L) h' F' := by
  have r0 := r
  obtain ⟨m, h1, h2, h3, e, h5⟩ := r
  obtain ⟨ti, ht, hd⟩ := t32
  obtain ⟨ei, he, hz⟩ := t3
  have hxl := hi.1
  refine XCalls.cps fun K hK => ?_
  apply x12
  unfold X12
  refine ⟨some m, by rw [Hp.ld_of h1]; rfl, ?_⟩
  simp only [Option.isNone_some, cond_false]
  rintro g1 rfl
  have hFlt : ∀ j ∈ F, j < h.next := fun j hj => (PoolR.rep p most last L).lt hw r0 hj
  refine ⟨fun vs g => match vs with
    | [.int _ i] => ∃ k : Nat, i = k ∧ k ≤ n ∧ MapIs kI kC ((xs.take k).map fun x => (x, (1 : Int))) h.next g [h.next] ∧ (∀ j, j < h.next → g.get j = h.get j) ∧ g.next = h.next + 1 ∧ g.wf ∧
        giveCode L who [] xs = giveCode L who (xs.take k) (xs.drop k)
    | _ => False, fun vs _ => match vs with
    | [.int _ i] => n - i.toNat
    | _ => 0, ⟨(by trivial), 0, rfl, Nat.zero_le _, MapIs.nil kI kC h, fun j hj => Hp.get_alloc_ne (by omega), rfl, hw.alloc, by simp⟩, ?_⟩
  rintro bs i g ⟨k, rfl, hk, hgm, hgs, hgn, hgw, hgc⟩
  have rg : PoolR p most last L g F := (PoolR.rep p most last L).stay hw r0 hgs
  cases hlt : ltI (↑k) (↑n) with
  | true =>
    rw [ltI_eq, decide_eq_true_eq] at hlt
    obtain ⟨q, o, x, rfl, hx, hld⟩ := hi.at (h' := g) (fun j o hj hF => by rw [hgs j (hw _ _ hj)]; exact hj) (k := k) (by omega)
    have hdr : xs.drop k = x :: xs.drop (k + 1) := by
      rw [List.drop_eq_getElem_cons (by omega)]
      congr 1
      have := List.getElem?_eq_getElem (l := xs) (i := k) (by omega)
      rw [this] at hx; exact Option.some.inj hx
    have hw1 := wrap_succ (k := k) (n := n) (by omega) (by omega)
    refine ⟨⟨by omega, hlt⟩, x, hld, ?_⟩
    refine (of_spec rg).mono ?_
    rintro _ g' ⟨rfl, ao, rfl, _⟩
    have hlook := hgm.look (K := kI28) ht hd he hz x false
    rw [mget_ones] at hlook
    rw [hdr] at hgc
    simp only [giveCode] at hgc
    by_cases hs : x ∈ xs.take k
    · rw [if_pos hs] at hlook hgc
      obtain ⟨g3, hx3, hm3, hs3, hn3⟩ := hgm.put kI28 ht hd x 2
      have hlook3 := hm3.look (K := kI28) ht hd he hz x false
      have hg2 : mget (mput ((xs.take k).map fun x => (x, (1 : Int))) x 2) x = some 2 := by
        have : ∀ l : List (Int × Int), mget (mput l x 2) x = some 2 := by
          intro l
          induction l with
          | nil => simp [mput, mget]
          | cons y l ih =>
            simp only [mput]
            by_cases e : x = y.1
            · simp [e, mget]
            · simp only [e, if_false, mget, List.find?_cons, decide_false] at ih ⊢
              exact ih
        exact this _
      rw [hg2] at hlook3
      refine ⟨ao, _, rfl, 1, hlook, g3, hx3, 2, hlook3, ?_⟩
      have c1 : ltI 1 2 = true := by decide
      rw [c1]
      refine hK _ _ ⟨by rw [hgc], F, ?_⟩
      rw [hgc, if_neg (by omega)]
      have hs4 : ∀ j, j < h.next → g3.get j = h.get j := fun j hj => by rw [hs3 j (by omega), hgs j hj]
      exact ⟨Upd.quiet F hs4 (by rw [hn3, hgn]; omega), (PoolR.rep p most last L).stay hw r0 hs4⟩
    · rw [if_neg hs] at hlook hgc
      obtain ⟨g3, hx3, hm3, hs3, hn3⟩ := hgm.put kI28 ht hd x 1
      rw [mput_new _ _ _ (by intro y hy e; obtain ⟨z, hz', rfl⟩ := List.mem_map.1 hy; exact hs (e ▸ hz'))] at hm3
      have htk : xs.take (k + 1) = xs.take k ++ [x] := by rw [List.take_add_one, hx]; rfl
      have hm4 : MapIs kI kC ((xs.take (k + 1)).map fun x => (x, (1 : Int))) h.next g3 [h.next] := by rw [htk, List.map_append]; exact hm3
      have hlook3 := hm4.look (K := kI28) ht hd he hz x false
      rw [mget_ones, if_pos (by rw [htk]; simp)] at hlook3
      refine ⟨ao, _, rfl, 0, hlook, g3, hx3, 1, hlook3, ?_⟩
      have c1 : ltI 1 1 = false := by decide
      rw [c1]
      have hs4 : ∀ j, j < h.next → g3.get j = h.get j := fun j hj => by rw [hs3 j (by omega), hgs j hj]
      have hw3 : g3.wf := by
        intro q' o' hq'
        rw [hn3]
        by_cases e : q' = h.next
        · subst e; omega
        · rw [hs3 q' e] at hq'; exact hgw _ _ hq'
      by_cases ho : ofCode L x who = 0
      · rw [if_pos ho] at hgc
        have c2 : (ofCode L x who != 0) = false := by simp [ho]
        simp only [c2, cond_false]
        refine ⟨(by trivial), ⟨k + 1, hw1, by omega, hm4, hs4, by rw [hn3, hgn], hw3, by rw [hgc, htk]⟩, ?_⟩
        show n - Int.toNat (IntKind.i64.wrap ((k : Int) + 1)) < n - Int.toNat (k : Int)
        rw [hw1]; simp only [Int.toNat_natCast]; omega
      · rw [if_neg ho] at hgc
        have c2 : (ofCode L x who != 0) = true := by simp [ho]
        simp only [c2, cond_true, cond_false]
        refine hK _ _ ⟨by rw [hgc], F, ?_⟩
        rw [hgc, if_neg ho]
        exact ⟨Upd.quiet F hs4 (by rw [hn3, hgn]; omega), (PoolR.rep p most last L).stay hw r0 hs4⟩
  | false =>
    rw [ltI_eq, decide_eq_false_iff_not] at hlt
    have hkn : k = n := by omega
    subst hkn
    have hz0 : giveCode L who [] xs = 0 := by rw [hgc, List.drop_of_length_le (by omega)]; rfl
    refine ⟨fun vs g2 => match vs with
      | [.int _ i] => ∃ j : Nat, i = j ∧ j ≤ k ∧ ∃ F', PoolR p most last ((xs.take j).foldl bdel L) g2 F' ∧ Upd h g2 F F' ∧ (∀ z ∈ F', z ∈ F) ∧ (((xs.take j).foldl bdel L).map Buf.id).Nodup ∧ g2.wf
      | _ => False, fun vs _ => match vs with
      | [.int _ i] => k - i.toNat
      | _ => 0, ⟨(by trivial), 0, rfl, Nat.zero_le _, F, rg, Upd.quiet F hgs (by omega), fun _ h => h, hid, hgw⟩, ?_⟩
    rintro bs2 i2 g2 ⟨j, rfl, hj, F', r2, u2, hsub, hnd, hw2⟩
    cases hlt2 : ltI (↑j) (↑k) with
    | true =>
      rw [ltI_eq, decide_eq_true_eq] at hlt2
      obtain ⟨q, o, x, rfl, hx, hld⟩ := hi.at (h' := g2) (fun z o hz' hF => by rw [u2.same z (hw _ _ hz') hF]; exact hz') (k := j) (by omega)
      have hw1 := wrap_succ (k := j) (n := k) (by omega) (by omega)
      obtain ⟨m', g3, hl3, hx3, F3, r3, u3, hsub3, hw3, hn3⟩ := r2.del hw2 hnd x
      have htk : (xs.take (j + 1)).foldl bdel L = bdel ((xs.take j).foldl bdel L) x := by
        rw [List.take_add_one, hx]; simp
      refine ⟨⟨by omega, hlt2⟩, x, hld, some m', hl3, g3, hx3, (by trivial), ⟨j + 1, hw1, by omega, F3, by rw [htk]; exact r3, u2.trans u3, fun z hz => hsub z (hsub3 z hz), by rw [htk]; exact bdel_nodup hnd, hw3⟩, ?_⟩
      show k - Int.toNat (IntKind.i64.wrap ((j : Int) + 1)) < k - Int.toNat (j : Int)
      rw [hw1]; simp only [Int.toNat_natCast]; omega
    | false =>
      rw [ltI_eq, decide_eq_false_iff_not] at hlt2
      refine hK _ _ ⟨by rw [hz0], F', u2, ?_⟩
      rw [if_pos hz0]
      rw [List.take_of_length_le (by omega)] at r2
      exact r2
end Go.Vex
