/-
  Contracts of call.Table, second part: New, Born, puts, opens, Socket, Accept, Bind, Listen, Share, File, Desk.
-/
import Derived.Test.YtibmhpkmmcgncaaVexGG
import Derived.Test.YtibmhpkmmcgncaaTab29
import Derived.Test.YtibmhpkmmcgncaaXp29
import Derived.Test.YtibmhpkmmcgncaaCpa29
import Derived.Test.YtibmhpkmmcgncaaCpb29
import Derived.Test.YtibmhpkmmcgncaaCpc29
import Derived.Test.YtibmhpkmmcgncaaCpd29
import Derived.Test.YtibmhpkmmcgncaaXta29
import Derived.Test.YtibmhpkmmcgncaaCta29
import Derived.Test.YtibmhpkmmcgncaaXtb29
set_option linter.unusedVariables false
set_option linter.unusedSimpArgs false
namespace Go.Vex.Call
open Go.Proofs
open Go.Vex.Ports (PortsR Bd bV bL b0 bindCode Quiet)

def supd (S : List Sk) (o : Nat) (d : Dk) : List Sk := S.map fun y => if y.o = o then ⟨y.id, y.o, d⟩ else y

theorem supd_o (S : List Sk) (o : Nat) (d : Dk) : (supd S o d).map Sk.o = S.map Sk.o := by
  unfold supd
  rw [List.map_map]
  apply List.map_congr_left
  intro x _
  simp only [Function.comp]
  split <;> rfl

theorem supd_key (S : List Sk) (o : Nat) (d : Dk) : (supd S o d).map (fun x => (x.id, x.o)) = S.map fun x => (x.id, x.o) := by
  unfold supd
  rw [List.map_map]
  apply List.map_congr_left
  intro x _
  simp only [Function.comp]
  split <;> rfl

theorem sfind_supd (S : List Sk) (o : Nat) (d : Dk) (id : Int) : sfind (supd S o d) id = (sfind S id).map fun y => if y.o = o then ⟨y.id, y.o, d⟩ else y := by
  unfold sfind supd
  rw [List.find?_map]
  congr 1
  congr 1
  funext x
  simp only [Function.comp]
  split <;> rfl

section
variable {t : Nat} {s : TS} {h : Hp} {mf ms po : Nat} {G GP : List Nat} {a : Option (Nat × Nat)} {f : Bool}

theorem At.setDesk (r : At t s h mf ms po G GP a f) {x : Sk} (hx : x ∈ s.S) (d : Dk) : At t { s with S := supd s.S x.o d } (h.set x.o (.row (dkL d) 1 false)) mf ms po G GP a f := by
  have ap := apart r.nd
  have hxo : x.o ∈ s.S.map Sk.o := List.mem_map_of_mem hx
  have e1 : t ≠ x.o := fun e => ap.tO (e ▸ hxo)
  have e2 : mf ≠ x.o := fun e => ap.fO (e ▸ hxo)
  have e3 : ms ≠ x.o := fun e => ap.sO (e ▸ hxo)
  refine ⟨by rw [Hp.get_set_ne e1]; exact r.row, (Own.rep _ _ _ _).loc _ _ _ (fun j hj => Hp.get_set_ne fun e => ap.OG _ hxo (e ▸ hj)) r.own, ?_, ?_, ?_, (PortsR.rep _ _).loc _ _ _ (fun j hj => Hp.get_set_ne fun e => ap.OP _ hxo (e ▸ hj)) r.ports, ?_⟩
  · obtain ⟨o, h1, h2⟩ := r.files; exact ⟨o, by rw [Hp.get_set_ne e2]; exact h1, h2⟩
  · obtain ⟨o, h1, h2⟩ := r.socks; exact ⟨o, by rw [Hp.get_set_ne e3]; exact h1, by rw [supd_key]; exact h2⟩
  · intro y hy
    unfold supd at hy
    obtain ⟨z, hz, rfl⟩ := List.mem_map.1 hy
    by_cases e : z.o = x.o
    · rw [if_pos e]; simp only; rw [e]; exact Hp.get_set_self
    · rw [if_neg e, Hp.get_set_ne e]; exact r.desks z hz
  · show (t :: mf :: ms :: ((supd s.S x.o d).map Sk.o ++ (G ++ GP))).Nodup
    rw [supd_o]; exact r.nd

theorem At.setFiles (r : At t s h mf ms po G GP a f) {A' : List (Int × Fi)} {o' : O} (hm : MO kF fV A' o') : At t { s with A := A' } (h.set mf o') mf ms po G GP a f := by
  have ap := apart r.nd
  refine ⟨by rw [Hp.get_set_ne ap.tm]; exact r.row, (Own.rep _ _ _ _).loc _ _ _ (fun j hj => Hp.get_set_ne fun e => ap.fG (e ▸ hj)) r.own, ⟨o', Hp.get_set_self, hm⟩, ?_, fun x hx => ?_, (PortsR.rep _ _).loc _ _ _ (fun j hj => Hp.get_set_ne fun e => ap.fP (e ▸ hj)) r.ports, r.nd⟩
  · obtain ⟨o, h1, h2⟩ := r.socks; exact ⟨o, by rw [Hp.get_set_ne (Ne.symm ap.fs)]; exact h1, h2⟩
  · rw [Hp.get_set_ne (fun e : x.o = mf => ap.fO (e ▸ List.mem_map_of_mem hx))]; exact r.desks x hx

theorem At.setLast (r : At t s h mf ms po G GP a f) (last : Int) : At t { s with last := last } (h.set t (.row [.int .i64 s.most, .slc a s.own.length f, .map (some mf), .map (some ms), .ptr (some (po, 0)), .int .u64 last] 1 false)) mf ms po G GP a f := by
  have ap := apart r.nd
  refine ⟨Hp.get_set_self, (Own.rep _ _ _ _).loc _ _ _ (fun j hj => Hp.get_set_ne fun e => ap.tG (e ▸ hj)) r.own, ?_, ?_, fun x hx => ?_, (PortsR.rep _ _).loc _ _ _ (fun j hj => Hp.get_set_ne fun e => ap.tP (e ▸ hj)) r.ports, r.nd⟩
  · obtain ⟨o, h1, h2⟩ := r.files; exact ⟨o, by rw [Hp.get_set_ne (Ne.symm ap.tm)]; exact h1, h2⟩
  · obtain ⟨o, h1, h2⟩ := r.socks; exact ⟨o, by rw [Hp.get_set_ne (Ne.symm ap.ts)]; exact h1, h2⟩
  · rw [Hp.get_set_ne (fun e : x.o = t => ap.tO (e ▸ List.mem_map_of_mem hx))]; exact r.desks x hx

/-- a socket of a new number -/
theorem At.newSock (r : At t s h mf ms po G GP a f) (hw : h.wf) {id : Int} (hno : sfind s.S id = none) (d : Dk) :
    ∃ g, xput T (h.alloc (.row (dkL d) 1 false)) 81 (.map (some ms)) (.int .u64 id) (.ptr (some (h.next, 0))) = some g ∧ At t { s with S := s.S ++ [⟨id, h.next, d⟩] } g mf ms po G GP a f ∧
      (∀ j, j < h.next → j ≠ ms → g.get j = h.get j) ∧ g.next = h.next + 1 ∧ g.wf := by
  have ap := apart r.nd
  have lt0 := r.lt hw
  have hst : ∀ j, j < h.next → (h.alloc (.row (dkL d) 1 false)).get j = h.get j := fun j hj => Hp.get_alloc_ne (by omega)
  have r1 := r.loc fun j hj => hst j (lt0 j hj)
  obtain ⟨oS, hS, moS⟩ := r1.socks
  obtain ⟨o', mo', hput⟩ := moS.put mtS id h.next
  have hms : ms < h.next := lt0 ms (by simp)
  refine ⟨_, hput _ ms hS, ?_, fun j hj hne => by rw [Hp.get_set_ne hne]; exact hst j hj, rfl, hw.alloc.set (by simp only [Hp.alloc_next]; omega)⟩
  rw [mput_none _ _ _ (by rw [mget_sk, hno]; rfl)] at mo'
  refine ⟨by rw [Hp.get_set_ne ap.ts]; exact r1.row, (Own.rep _ _ _ _).loc _ _ _ (fun j hj => Hp.get_set_ne fun e => ap.sG (e ▸ hj)) r1.own, ?_, ⟨o', Hp.get_set_self, by rw [List.map_append]; exact mo'⟩, fun x hx => ?_, (PortsR.rep _ _).loc _ _ _ (fun j hj => Hp.get_set_ne fun e => ap.sP (e ▸ hj)) r1.ports, ?_⟩
  · obtain ⟨o, h1, h2⟩ := r1.files; exact ⟨o, by rw [Hp.get_set_ne ap.fs]; exact h1, h2⟩
  · rcases List.mem_append.1 hx with hx | hx
    · rw [Hp.get_set_ne (fun e : x.o = ms => ap.sO (e ▸ List.mem_map_of_mem hx))]; exact r1.desks x hx
    · rw [List.mem_singleton] at hx
      subst hx
      rw [Hp.get_set_ne (by simp only; omega)]; exact Hp.get_alloc_self
  · have hnew : h.next ∉ t :: mf :: ms :: (s.S.map Sk.o ++ (G ++ GP)) := fun hm => by have := lt0 _ hm; omega
    have hperm : (t :: mf :: ms :: ((s.S ++ [(⟨id, h.next, d⟩ : Sk)]).map Sk.o ++ (G ++ GP))).Perm (h.next :: t :: mf :: ms :: (s.S.map Sk.o ++ (G ++ GP))) := by
      have e1 : (s.S ++ [(⟨id, h.next, d⟩ : Sk)]).map Sk.o ++ (G ++ GP) = s.S.map Sk.o ++ h.next :: (G ++ GP) := by simp
      rw [e1]
      have p1 : (t :: mf :: ms :: (s.S.map Sk.o ++ h.next :: (G ++ GP))).Perm ((t :: mf :: ms :: s.S.map Sk.o) ++ h.next :: (G ++ GP)) := by simp
      exact p1.trans (List.perm_middle.trans (by simp))
    exact hperm.nodup_iff.2 (List.nodup_cons.2 ⟨hnew, r.nd⟩)
end

theorem u64w {x : Int} (h0 : 0 ≤ x) (h1 : x < 18446744073709551616) : IntKind.u64.wrap x = x := wrap_of (by simp [IntKind.min, IntKind.max, IntKind.signed, IntKind.bits]; omega)

section
variable {h : Hp} {t : Nat} {s : TS} {F : List Nat}

theorem born_spec (hw : h.wf) (r : TblR t s h F) (hl : 0 ≤ s.last ∧ s.last < 1000000) : XCalls Try.prog 12 [.ptr (some (t, 0))] h fun v h' => v = .int .u64 (s.last + 1) ∧ TblR t { s with last := s.last + 1 } h' F ∧ Upd h h' F F ∧ h'.wf ∧ h'.next = h.next := by
  obtain ⟨mf, ms, po, G, GP, a, f, at0, rfl⟩ := r
  apply x12; unfold X12
  refine ⟨some mf, by rw [Hp.ld_of at0.row]; rfl, ?_⟩
  simp only [Option.isNone_some, cond_false]
  have e := u64w (x := s.last + 1) (by omega) (by omega)
  refine ⟨s.last, by rw [Hp.ld_of at0.row]; rfl, _, Hp.st_of at0.row (Nat.le_of_ble_eq_true rfl), s.last + 1, by rw [Hp.ld_of Hp.get_set_self, e]; rfl, rfl, ⟨mf, ms, po, G, GP, a, f, ?_, rfl⟩, ⟨fun j hj hF => Hp.get_set_ne fun e => hF (by simp [e]), fun j hj => .inl hj, Nat.le_refl _⟩, hw.set (hw.lt at0.row), rfl⟩
  have := at0.setLast (s.last + 1)
  rw [e]; exact this

theorem keys_le : ∀ {l m : List Int}, l.Nodup → (∀ x ∈ l, x ∈ m) → l.length ≤ m.length
  | [], _, _, _ => Nat.zero_le _
  | x :: l, m, hn, hs => by
    rw [List.nodup_cons] at hn
    have hx := hs x (by simp)
    have := keys_le (l := l) (m := m.erase x) hn.2 fun y hy => (List.mem_erase_of_ne (fun e : y = x => hn.1 (e ▸ hy))).2 (hs y (by simp [hy]))
    rw [List.length_erase_of_mem hx] at this
    have : 0 < m.length := List.length_pos_of_mem hx
    simp only [List.length_cons]; omega

theorem below_le {A : List (Int × Fi)} {k : Nat} (hk : ∀ j : Nat, j < k → mget A (j : Int) ≠ none) : k ≤ A.length := by
  have := keys_le (l := (List.range k).map fun j : Nat => (j : Int)) (m := A.map Prod.fst) (by
      rw [List.nodup_iff_pairwise_ne, List.pairwise_map]
      exact (List.nodup_iff_pairwise_ne.1 List.nodup_range).imp fun h e => h (by omega)) (fun x hx => by
      obtain ⟨j, hj, rfl⟩ := List.mem_map.1 hx
      exact (mget_mem A _).1 (hk j (List.mem_range.1 hj)))
  simpa using this

/-- the least descriptor that is free -/
def Least (A : List (Int × Fi)) (k : Nat) : Prop := mget A (k : Int) = none ∧ ∀ j : Nat, j < k → mget A (j : Int) ≠ none

theorem puts_spec {fi : Fi} (hw : h.wf) (r : TblR t s h F) (hA : s.A.length ≤ 1000) : XCalls Try.prog 40 [.ptr (some (t, 0)), fV fi] h fun v h' => ∃ k : Nat, v = .int .i64 k ∧ Least s.A k ∧ TblR t { s with A := s.A ++ [((k : Int), fi)] } h' F ∧ Upd h h' F F ∧ h'.wf := by
  obtain ⟨mf, ms, po, G, GP, a, f, at0, rfl⟩ := r
  have lt0 := at0.lt hw
  refine XCalls.cps fun K hK => ?_
  apply x40; unfold X40
  rintro g1 rfl
  have hs1 : ∀ j, j < h.next → (h.alloc (.row [.int .u8 fi.kind, .int .u8 fi.proto, .int .u64 fi.id, .bool fi.calm] 1 false)).get j = h.get j := fun j hj => Hp.get_alloc_ne (by omega)
  refine ⟨fun vs g => match vs with
    | [.int _ i] => ∃ k : Nat, i = k ∧ (∀ j : Nat, j < k → mget s.A (j : Int) ≠ none) ∧ (∀ j, j < h.next → g.get j = h.get j) ∧ g.get h.next = some (.row [.int .u8 fi.kind, .int .u8 fi.proto, .int .u64 fi.id, .bool fi.calm] 1 false) ∧ g.wf ∧ h.next < g.next
    | _ => False, fun vs _ => match vs with
    | [.int _ i] => 1002 - i.toNat
    | _ => 0, ⟨(by trivial), 0, rfl, fun j hj => absurd hj (by omega), hs1, Hp.get_alloc_self, hw.alloc, Nat.lt_succ_self _⟩, ?_⟩
  rintro bs i g ⟨k, rfl, hk, hs, hrow, wf, hn⟩
  have atg := at0.loc fun j hj => hs j (lt0 j hj)
  obtain ⟨oF, hF, moF⟩ := atg.files
  have hkl := below_le hk
  have hlk := moF.look2 mtF (k : Int) g mf hF
  rw [lookV_getD] at hlk
  refine ⟨some mf, by rw [Hp.ld_of atg.row]; rfl, _, _, _, _, _, hlk, ?_⟩
  rintro g2 rfl
  refine ⟨_, Hp.st_of Hp.get_alloc_self (Nat.le_of_ble_eq_true rfl), ?_⟩
  generalize hg3 : (g.alloc _).set g.next _ = g3
  have hs3 : ∀ j, j < g.next → g3.get j = g.get j := fun j hj => by rw [← hg3, Hp.get_set_ne (by omega), Hp.get_alloc_ne (by omega)]
  have wf3 : g3.wf := by rw [← hg3]; exact wf.alloc.set (by simp [Hp.alloc_next])
  have hn3 : g3.next = g.next + 1 := by rw [← hg3]; rfl
  clear hg3
  have at3 := at0.loc (h' := g3) fun j hj => by rw [hs3 j (by have := lt0 j hj; omega)]; exact hs j (lt0 j hj)
  have hrow3 : g3.get h.next = some (.row [.int .u8 fi.kind, .int .u8 fi.proto, .int .u64 fi.id, .bool fi.calm] 1 false) := by rw [hs3 _ hn]; exact hrow
  cases hm : mget s.A (k : Int) with
  | none =>
    simp only [Option.isSome_none, Bool.not_false, cond_true]
    obtain ⟨oF3, hF3, moF3⟩ := at3.files
    obtain ⟨o', mo', hput⟩ := moF3.put mtF (k : Int) fi
    rw [mput_none _ _ _ hm] at mo'
    refine ⟨some mf, by rw [Hp.ld_of at3.row]; rfl, fi.kind, fi.proto, fi.id, fi.calm, by rw [Hp.lda_of hrow3 (Nat.le_of_ble_eq_true rfl)]; rfl, _, hput g3 mf hF3, hK _ _ ⟨k, rfl, ⟨hm, hk⟩, ⟨mf, ms, po, G, GP, a, f, at3.setFiles mo', rfl⟩, ⟨fun j hj hnF => ?_, fun j hj => .inl hj, by simp only [Hp.set_next]; omega⟩, wf3.set (by have := lt0 mf (by simp); omega)⟩⟩
    rw [Hp.get_set_ne (fun e => hnF (by simp [e])), hs3 j (by omega), hs j hj]
  | some f1 =>
    simp only [Option.isSome_some, Bool.not_true, cond_false]
    have hw1 : IntKind.i64.wrap ((k : Int) + 1) = ((k + 1 : Nat) : Int) := by rw [wr (by omega) (by omega)]; rfl
    refine ⟨(by trivial), ⟨k + 1, hw1, fun j hj => ?_, fun j hj => by rw [hs3 j (by omega)]; exact hs j hj, hrow3, wf3, by omega⟩, ?_⟩
    · rcases Nat.lt_succ_iff_lt_or_eq.1 hj with h | rfl
      · exact hk j h
      · rw [hm]; simp
    · show 1002 - Int.toNat (IntKind.i64.wrap ((k : Int) + 1)) < 1002 - Int.toNat (k : Int)
      rw [hw1]; simp only [Int.toNat_natCast]; omega

theorem opens_spec {fi : Fi} (hw : h.wf) (r : TblR t s h F) (hA : s.A.length ≤ 1000) (hl : 0 ≤ s.last ∧ s.last < 1000000) : XCalls Try.prog 34 [.ptr (some (t, 0)), fV fi] h fun v h' => Upd h h' F F ∧ h'.wf ∧
    if s.most ≤ s.A.length then v = .tup [.int .i64 0, .int .u64 0, .int .i64 291] ∧ TblR t s h' F
    else ∃ k : Nat, v = .tup [.int .i64 k, .int .u64 (s.last + 1), .int .i64 0] ∧ Least s.A k ∧ TblR t { s with A := s.A ++ [((k : Int), { fi with id := s.last + 1 })], last := s.last + 1 } h' F := by
  have r0 := r
  obtain ⟨mf, ms, po, G, GP, a, f, at0, hFe⟩ := r
  have lt0 := at0.lt hw
  refine XCalls.cps fun K hK => ?_
  apply x34; unfold X34
  rintro g1 rfl
  have hs1 : ∀ j, j < h.next → (h.alloc (.row [.int .u8 fi.kind, .int .u8 fi.proto, .int .u64 fi.id, .bool fi.calm] 1 false)).get j = h.get j := fun j hj => Hp.get_alloc_ne (by omega)
  have at1 := at0.loc fun j hj => hs1 j (lt0 j hj)
  have r1 : TblR t s (h.alloc (.row [.int .u8 fi.kind, .int .u8 fi.proto, .int .u64 fi.id, .bool fi.calm] 1 false)) F := (TblR.rep t s).stay hw r0 hs1
  obtain ⟨oF, hF, moF⟩ := at1.files
  refine ⟨some mf, by rw [Hp.ld_of at1.row]; rfl, _, moF.len mtF _ mf hF, s.most, by rw [Hp.ld_of at1.row]; rfl, ?_⟩
  by_cases c : s.most ≤ s.A.length
  · have : ltI (↑s.A.length) s.most = false := by rw [ltI_eq, decide_eq_false_iff_not]; omega
    rw [this]
    refine hK _ _ ⟨Upd.alloc _ _ _, hw.alloc, ?_⟩
    rw [if_pos c]; exact ⟨rfl, r1⟩
  · have : ltI (↑s.A.length) s.most = true := by rw [ltI_eq, decide_eq_true_eq]; omega
    rw [this]
    simp only [Bool.not_true, cond_false]
    refine (born_spec hw.alloc r1 hl).mono ?_
    rintro _ g2 ⟨rfl, r2, u2, wf2, hn2⟩
    have hnF : h.next ∉ F := fun hm => by have := (TblR.rep t s).lt hw r0 hm; omega
    have hrow2 : g2.get h.next = some (.row [.int .u8 fi.kind, .int .u8 fi.proto, .int .u64 fi.id, .bool fi.calm] 1 false) := by rw [u2.same _ (by simp [Hp.alloc_next]) hnF]; exact Hp.get_alloc_self
    refine ⟨_, rfl, _, Hp.st_of hrow2 (Nat.le_of_ble_eq_true rfl), ?_⟩
    generalize hg3 : g2.set h.next _ = g3
    have hrow3 : g3.get h.next = some (.row [.int .u8 fi.kind, .int .u8 fi.proto, .int .u64 (s.last + 1), .bool fi.calm] 1 false) := by rw [← hg3]; exact Hp.get_set_self
    have hs3 : ∀ j, j ≠ h.next → g3.get j = g2.get j := fun j hj => by rw [← hg3]; exact Hp.get_set_ne hj
    have wf3 : g3.wf := by rw [← hg3]; exact wf2.set (wf2.lt hrow2)
    have hn3 : g3.next = g2.next := by rw [← hg3]; rfl
    clear hg3
    have r3 := (TblR.rep _ _).loc g2 g3 F (fun j hj => hs3 j fun e => hnF (e ▸ hj)) r2
    have hn2' : g2.next = h.next + 1 := by rw [hn2]; rfl
    refine ⟨fi.kind, fi.proto, s.last + 1, fi.calm, by rw [Hp.lda_of hrow3 (Nat.le_of_ble_eq_true rfl)]; rfl, s.last + 1, by rw [Hp.ld_of hrow3]; rfl, ?_⟩
    refine (puts_spec (fi := { fi with id := s.last + 1 }) wf3 r3 hA).mono ?_
    rintro _ g4 ⟨k, rfl, hk, r4, u4, wf4⟩
    refine ⟨_, rfl, ⟨s.last + 1, by rw [Hp.ld_of (show g4.get h.next = _ from (u4.same _ (by omega) hnF).trans hrow3)]; rfl, rfl⟩, (by trivial), ?_⟩
    refine hK _ _ ⟨⟨fun j hj hF => ?_, fun j hj => .inl hj, by have := u4.le; omega⟩, wf4, ?_⟩
    · rw [u4.same j (by omega) hF, hs3 j (by omega), u2.same j (by simp [Hp.alloc_next]; omega) hF, hs1 j hj]
    · rw [if_neg c]; exact ⟨k, rfl, hk, r4⟩

def dk0 (proto : Int) : Dk := ⟨proto, 0, ⟨0, 0, 0, false⟩, 0, 0, 0, 0, false, 0⟩

theorem socket_spec {proto : Int} (hw : h.wf) (r : TblR t s h F) (hp : proto = 1 ∨ proto = 2) (hA : s.A.length ≤ 1000) (hl : 0 ≤ s.last ∧ s.last < 1000000) (hno : sfind s.S (s.last + 1) = none) :
    XCalls Try.prog 9 [.ptr (some (t, 0)), .int .u8 proto] h fun v h' => h'.wf ∧ ∃ F', Upd h h' F F' ∧
      if s.most ≤ s.A.length then v = .tup [.int .i64 0, .int .u64 0, .int .i64 291] ∧ TblR t s h' F'
      else ∃ (k : Nat) (o : Nat), v = .tup [.int .i64 k, .int .u64 (s.last + 1), .int .i64 0] ∧ Least s.A k ∧ TblR t { s with A := s.A ++ [((k : Int), ⟨1, proto, s.last + 1, false⟩)], last := s.last + 1, S := s.S ++ [⟨s.last + 1, o, dk0 proto⟩] } h' F' := by
  have r0 := r
  obtain ⟨mf, ms, po, G, GP, a, f, at0, hFe⟩ := r
  refine XCalls.cps fun K hK => ?_
  apply x9; unfold X9
  refine ⟨fun vs g => g = h, ?_, ?_⟩
  · refine ⟨some mf, by rw [Hp.ld_of at0.row]; rfl, ?_⟩
    simp only [Option.isNone_some, cond_false]
    rcases hp with rfl | rfl
    · exact ⟨(by trivial), (by trivial)⟩
    · exact ⟨(by trivial), (by trivial)⟩
  rintro bs g rfl
  refine (opens_spec (fi := ⟨1, proto, 0, false⟩) hw r0 hA hl).mono ?_
  rintro v g1 ⟨u1, wf1, hv⟩
  by_cases c : s.most ≤ s.A.length
  · rw [if_pos c] at hv
    obtain ⟨rfl, r1⟩ := hv
    refine ⟨_, _, _, rfl, ?_⟩
    have b : ((291 : Int) == 0) = false := by decide
    rw [b]
    refine hK _ _ ⟨wf1, F, u1, ?_⟩
    rw [if_pos c]; exact ⟨rfl, r1⟩
  · rw [if_neg c] at hv
    obtain ⟨k, rfl, hk, r1⟩ := hv
    refine ⟨_, _, _, rfl, ?_⟩
    have b : ((0 : Int) == 0) = true := by decide
    rw [b]
    obtain ⟨mf1, ms1, po1, G1, GP1, a1, f1, at1, hF1⟩ := r1
    refine ⟨some ms1, by rw [Hp.ld_of at1.row]; rfl, ?_⟩
    rintro g2 rfl
    obtain ⟨g3, hx3, at3, hs3, hn3, wf3⟩ := at1.newSock wf1 hno (dk0 proto)
    refine ⟨g3, hx3, hK _ _ ⟨wf3, t :: mf1 :: ms1 :: ((s.S ++ [(⟨s.last + 1, g1.next, dk0 proto⟩ : Sk)]).map Sk.o ++ (G1 ++ GP1)), ?_, ?_⟩⟩
    · refine ⟨fun j hj hF => ?_, fun j hj => ?_, by have := u1.le; omega⟩
      · rw [hs3 j (by have := u1.le; omega) (fun e => hF (by rw [hF1, e]; simp)), u1.same j hj hF]
      · simp only [List.map_append, List.map_cons, List.map_nil, List.mem_cons, List.mem_append, List.mem_singleton, List.not_mem_nil, or_false] at hj
        rw [hF1]
        simp only [List.mem_cons, List.mem_append]
        have := u1.le
        rcases hj with hj | hj | hj | (hj | hj) | hj | hj
        · exact .inl (.inl hj)
        · exact .inl (.inr (.inl hj))
        · exact .inl (.inr (.inr (.inl hj)))
        · exact .inl (.inr (.inr (.inr (.inl hj))))
        · exact .inr (by omega)
        · exact .inl (.inr (.inr (.inr (.inr (.inl hj)))))
        · exact .inl (.inr (.inr (.inr (.inr (.inr hj)))))
    · rw [if_neg c]
      exact ⟨k, g1.next, rfl, hk, mf1, ms1, po1, G1, GP1, a1, f1, at3, rfl⟩
end
end Go.Vex.Call
