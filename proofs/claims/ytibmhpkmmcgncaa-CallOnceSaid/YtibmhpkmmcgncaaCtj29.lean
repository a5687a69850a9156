/-
  What a table keeps behind a step of a script; the reference's answers when it is empty (layer 29).
-/
import Derived.Test.YtibmhpkmmcgncaaVexGG
import Derived.Test.YtibmhpkmmcgncaaTab29
import Derived.Test.YtibmhpkmmcgncaaXp29
import Derived.Test.YtibmhpkmmcgncaaCpa29
import Derived.Test.YtibmhpkmmcgncaaCpb29
import Derived.Test.YtibmhpkmmcgncaaCpc29
import Derived.Test.YtibmhpkmmcgncaaCpd29
import Derived.Test.YtibmhpkmmcgncaaXta29
import Derived.Test.YtibmhpkmmcgncaaCta29
import Derived.Test.YtibmhpkmmcgncaaXtb29
import Derived.Test.YtibmhpkmmcgncaaCtb29
import Derived.Test.YtibmhpkmmcgncaaCtc29
import Derived.Test.YtibmhpkmmcgncaaCtd29
import Derived.Test.YtibmhpkmmcgncaaXth29
import Derived.Test.YtibmhpkmmcgncaaCth29
import Derived.Test.YtibmhpkmmcgncaaXtj29
set_option linter.unusedVariables false
set_option linter.unusedSimpArgs false
namespace Go.Vex.Call
open Go.Proofs
open Go.Vex.Ports (PortsR Bd bV bL b0 bindCode Quiet LendR without)

structure CI (s : TS) : Prop where
  pn : (s.P.map Prod.fst).Nodup
  pl : s.P.length ≤ 1024
  sn : (s.S.map Sk.id).Nodup
  sl : ∀ x ∈ s.S, x.id ≤ s.last
  al : (s.A.length : Int) ≤ s.most
  ai : ∀ fd f, mget s.A fd = some f → 1 ≤ f.id ∧ f.id ≤ s.last
  an : (s.A.map Prod.fst).Nodup
  ol : s.own.length ≤ 1000
  ml : s.most ≤ 64

structure Same (s s' : TS) : Prop where
  most : s'.most = s.most
  last : s'.last = s.last
  ids : ∀ fd, (mget s'.A fd).map Fi.id = (mget s.A fd).map Fi.id
  ci : CI s'

theorem Same.refl {s : TS} (c : CI s) : Same s s := ⟨rfl, rfl, fun _ => rfl, c⟩

def Post (t : Nat) (s : TS) (h : Hp) (F : List Nat) (h' : Hp) : Prop := Upd h h' F F ∧ h'.wf ∧ ∃ s', Same s s' ∧ TblR t s' h' F

theorem same_mk {t : Nat} {s s' : TS} {h' : Hp} {F : List Nat} (r' : TblR t s' h' F) (c' : CI s') (h1 : s'.most = s.most) (h2 : s'.last = s.last) (h3 : ∀ fd, (mget s'.A fd).map Fi.id = (mget s.A fd).map Fi.id) : ∃ s', Same s s' ∧ TblR t s' h' F := ⟨s', ⟨h1, h2, h3, c'⟩, r'⟩

theorem supd_id (S : List Sk) (o : Nat) (d : Dk) : (supd S o d).map Sk.id = S.map Sk.id := by
  unfold supd
  rw [List.map_map]
  apply List.map_congr_left
  intro x _
  simp only [Function.comp]
  split <;> rfl

theorem CI.supd {s : TS} (c : CI s) (o : Nat) (d : Dk) : CI { s with S := supd s.S o d } where
  pn := c.pn
  pl := c.pl
  sn := by rw [supd_id]; exact c.sn
  sl := fun x hx => by
    have : x.id ∈ (Call.supd s.S o d).map Sk.id := List.mem_map_of_mem hx
    rw [supd_id] at this
    obtain ⟨y, hy, e⟩ := List.mem_map.1 this
    have := c.sl y hy
    simp only; omega
  al := c.al
  ai := c.ai
  an := c.an
  ol := c.ol
  ml := c.ml

theorem CI.ports {s : TS} (c : CI s) {id : Int} (b : Bd) (h : mget s.P id = none ∧ s.P.length < 1024) : CI { s with P := s.P ++ [(id, b)] } := by
  refine ⟨?_, by simp only [List.length_append, List.length_singleton]; omega, c.sn, c.sl, c.al, c.ai, c.an, c.ol, c.ml⟩
  rw [List.map_append, List.nodup_append]
  refine ⟨c.pn, by simp, fun a ha b' hb => ?_⟩
  simp at hb; subst hb
  exact fun e => (mget_mem s.P b').2 (e ▸ ha) h.1

theorem bind_get {L : List (Int × Bd)} {s : Int} {b : Bd} (h : bindCode L s b = 0) : mget L s = none ∧ L.length < 1024 := by
  unfold bindCode at h
  split at h
  · rename_i h1; exact absurd h h1
  · rename_i h1
    exact Ports.may_get (by simpa using h1)

theorem lend_get {L L' : List (Int × Bd)} {s draw code port : Int} {b : Bd} (h : LendR L s b draw code port L') : L' = L ∨ ∃ b', L' = L ++ [(s, b')] ∧ mget L s = none ∧ L.length < 1024 := by
  rcases h with ⟨_, _, _, h⟩ | ⟨h1, i, _, _, _, _, _, h⟩ | ⟨_, _, _, _, h⟩
  · exact .inl h
  · obtain ⟨h2, h3⟩ := Ports.may_get h1
    exact .inr ⟨_, h, h2, h3⟩
  · exact .inl h

theorem CI.lend {s : TS} (c : CI s) {L' : List (Int × Bd)} {id draw code port : Int} {b : Bd} (h : LendR s.P id b draw code port L') : CI { s with P := L' } := by
  rcases lend_get h with rfl | ⟨b', rfl, h2⟩
  · exact c
  · exact c.ports b' h2

section
variable {h : Hp} {t : Nat} {s : TS} {F : List Nat}

theorem kshare {fd : Int} {is : Bool} (hw : h.wf) (r : TblR t s h F) (c : CI s) : XCalls Try.prog 24 [.ptr (some (t, 0)), .int .i64 fd, .bool is] h fun v h' => (∃ n : Int, v = .int .i64 n) ∧ Post t s h F h' := by
  refine (share_spec hw r).mono ?_
  rintro _ h' ⟨rfl, u, wf, hv⟩
  refine ⟨⟨_, rfl⟩, u, wf, ?_⟩
  split at hv
  · obtain ⟨f, x, _, _, r'⟩ := hv
    exact same_mk r' (c.supd _ _) rfl rfl fun _ => rfl
  · exact ⟨s, Same.refl c, hv⟩

theorem klisten {fd : Int} (hw : h.wf) (r : TblR t s h F) (c : CI s) : XCalls Try.prog 14 [.ptr (some (t, 0)), .int .i64 fd] h fun v h' => (∃ n : Int, v = .int .i64 n) ∧ Post t s h F h' := by
  refine (listen_spec hw r).mono ?_
  rintro _ h' ⟨rfl, u, wf, hv⟩
  refine ⟨⟨_, rfl⟩, u, wf, ?_⟩
  split at hv
  · obtain ⟨f, x, _, _, r'⟩ := hv
    exact same_mk r' (c.supd _ _) rfl rfl fun _ => rfl
  · exact ⟨s, Same.refl c, hv⟩

theorem kbind {fd ip port : Int} (hw : h.wf) (r : TblR t s h F) (c : CI s) : XCalls Try.prog 13 [.ptr (some (t, 0)), .int .i64 fd, .agg [.int .u32 ip, .int .u16 port]] h fun v h' => (∃ n : Int, v = .int .i64 n) ∧ Post t s h F h' := by
  refine (bindt_spec hw r c.ol).mono ?_
  rintro v h' ⟨u, wf, hv⟩
  split at hv
  · obtain ⟨f, x, _, _, rfl, hv⟩ := hv
    refine ⟨⟨_, rfl⟩, u, wf, ?_⟩
    split at hv
    · rename_i hb
      have c2 : CI { s with S := supd s.S x.o { x.d with st := 1, b := bound x.d ip port }, P := s.P ++ [(f.id, bound x.d ip port)] } := (c.supd x.o { x.d with st := 1, b := bound x.d ip port }).ports (id := f.id) (bound x.d ip port) (bind_get hb)
      exact same_mk hv c2 rfl rfl fun _ => rfl
    · exact ⟨s, Same.refl c, hv⟩
  · obtain ⟨rfl, r'⟩ := hv
    exact ⟨⟨_, rfl⟩, u, wf, s, Same.refl c, r'⟩

theorem kconnect {fd own tip tport draw : Int} (hw : h.wf) (r : TblR t s h F) (c : CI s) (hd : 0 ≤ draw ∧ draw < 65536) :
    XCalls Try.prog 18 [.ptr (some (t, 0)), .int .i64 fd, .int .u32 own, .agg [.int .u32 tip, .int .u16 tport], .int .u16 draw] h fun v h' => (∃ n1 n2 n3 n4 n : Int, v = .tup [.agg [.int .u32 n1, .int .u16 n2, .int .u32 n3, .int .u16 n4], .int .i64 n]) ∧ Post t s h F h' := by
  refine (connect_spec hw r c.ol hd).mono ?_
  rintro v h' ⟨u, wf, hv⟩
  split at hv
  · obtain ⟨f, x, _, _, hv⟩ := hv
    split at hv
    · obtain ⟨code, port, P', hL, hv⟩ := hv
      split at hv
      · obtain ⟨rfl, r'⟩ := hv
        have c2 : CI { s with S := supd s.S x.o (conn { x.d with b := ⟨x.d.proto, own, port, false⟩ } own tip tport), P := P' } := (c.supd x.o (conn { x.d with b := ⟨x.d.proto, own, port, false⟩ } own tip tport)).lend (L' := P') hL
        exact ⟨⟨_, _, _, _, _, rfl⟩, u, wf, same_mk r' c2 rfl rfl fun _ => rfl⟩
      · obtain ⟨rfl, r'⟩ := hv
        exact ⟨⟨_, _, _, _, _, rfl⟩, u, wf, same_mk r' (c.lend hL) rfl rfl fun _ => rfl⟩
    · obtain ⟨rfl, r'⟩ := hv
      exact ⟨⟨_, _, _, _, _, rfl⟩, u, wf, same_mk r' (c.supd _ _) rfl rfl fun _ => rfl⟩
  · obtain ⟨rfl, r'⟩ := hv
    exact ⟨⟨_, _, _, _, _, rfl⟩, u, wf, s, Same.refl c, r'⟩

theorem mput_keys {A : List (Int × Fi)} {fd : Int} {f g : Fi} (hm : mget A fd = some f) : (mput A fd g).map Prod.fst = A.map Prod.fst := mput_some A fd g (by rw [hm]; simp)

theorem kcalm {fd : Int} {is : Bool} (hw : h.wf) (r : TblR t s h F) (c : CI s) : XCalls Try.prog 28 [.ptr (some (t, 0)), .int .i64 fd, .bool is] h fun v h' => (∃ n : Int, v = .int .i64 n) ∧ Post t s h F h' := by
  have r0 := r
  obtain ⟨mf, ms, po, G, GP, a, f, at0, hFe⟩ := r
  have lt0 := at0.lt hw
  refine XCalls.cps fun K hK => ?_
  apply x28; unfold X28
  obtain ⟨oF, hF, moF⟩ := at0.files
  have hlk := moF.look2 mtF fd h mf hF
  rw [lookV_getD] at hlk
  refine ⟨some mf, by rw [Hp.ld_of at0.row]; rfl, ?_⟩
  simp only [Option.isNone_some, cond_false]
  refine ⟨some mf, by rw [Hp.ld_of at0.row]; rfl, _, _, _, _, _, hlk, ?_⟩
  generalize hff : (mget s.A fd).getD f0 = ff
  rintro g1 rfl
  refine ⟨_, Hp.st_of Hp.get_alloc_self (Nat.le_of_ble_eq_true rfl), ?_⟩
  generalize hg2 : (h.alloc _).set h.next _ = g2
  have hrow2 : g2.get h.next = some (.row [.int .u8 ff.kind, .int .u8 ff.proto, .int .u64 ff.id, .bool ff.calm] 1 false) := by rw [← hg2]; exact Hp.get_set_self
  have hs2 : ∀ j, j < h.next → g2.get j = h.get j := fun j hj => by rw [← hg2, Hp.get_set_ne (by omega), Hp.get_alloc_ne (by omega)]
  have wf2 : g2.wf := by rw [← hg2]; exact hw.alloc.set (by simp [Hp.alloc_next])
  have hn2 : g2.next = h.next + 1 := by rw [← hg2]; rfl
  clear hg2
  cases hm : mget s.A fd with
  | none =>
    simp only [Option.isSome_none, Bool.not_false, cond_true]
    exact hK _ _ ⟨⟨_, rfl⟩, Upd.quiet _ hs2 (by omega), wf2, s, Same.refl c, (TblR.rep t s).stay hw r0 hs2⟩
  | some f1 =>
    rw [hm] at hff
    simp only [Option.getD_some] at hff
    subst hff
    simp only [Option.isSome_some, Bool.not_true, cond_false]
    refine ⟨_, Hp.st_of hrow2 (Nat.le_of_ble_eq_true rfl), ?_⟩
    generalize hg3 : g2.set h.next _ = g3
    have hrow3 : g3.get h.next = some (.row [.int .u8 f1.kind, .int .u8 f1.proto, .int .u64 f1.id, .bool is] 1 false) := by rw [← hg3]; exact Hp.get_set_self
    have hs3 : ∀ j, j < h.next → g3.get j = h.get j := fun j hj => by rw [← hg3, Hp.get_set_ne (by omega)]; exact hs2 j hj
    have wf3 : g3.wf := by rw [← hg3]; exact wf2.set (by omega)
    have hn3 : g3.next = h.next + 1 := by rw [← hg3]; exact hn2
    clear hg3
    have at3 := at0.loc fun j hj => hs3 j (lt0 j hj)
    obtain ⟨oF3, hF3, moF3⟩ := at3.files
    obtain ⟨o', mo', hput⟩ := moF3.put mtF fd ⟨f1.kind, f1.proto, f1.id, is⟩
    have hmf := lt0 mf (by simp)
    refine ⟨some mf, by rw [Hp.ld_of at3.row]; rfl, f1.kind, f1.proto, f1.id, is, by rw [Hp.lda_of hrow3 (Nat.le_of_ble_eq_true rfl)]; rfl, _, hput g3 mf hF3, hK _ _ ⟨⟨_, rfl⟩, ⟨fun j hj hn => ?_, fun j hj => .inl hj, by simp only [Hp.set_next]; omega⟩, wf3.set (by omega), { s with A := mput s.A fd ⟨f1.kind, f1.proto, f1.id, is⟩ }, ⟨rfl, rfl, fun fd' => ?_, ?_⟩, mf, ms, po, G, GP, a, f, at3.setFiles mo', hFe⟩⟩
    · rw [Hp.get_set_ne (fun e => hn (by rw [hFe, e]; simp))]; exact hs3 j hj
    · simp only; rw [mget_mput]
      by_cases e : fd' = fd
      · rw [if_pos e, e, hm]; rfl
      · rw [if_neg e]
    · refine ⟨c.pn, c.pl, c.sn, c.sl, ?_, fun fd' g hg => ?_, by simp only; rw [mput_keys hm]; exact c.an, c.ol, c.ml⟩
      · have := congrArg List.length (mput_keys (g := ⟨f1.kind, f1.proto, f1.id, is⟩) hm)
        rw [List.length_map, List.length_map] at this
        simp only; rw [this]; exact c.al
      · simp only at hg; rw [mget_mput] at hg
        by_cases e : fd' = fd
        · rw [if_pos e] at hg
          have := c.ai fd f1 hm
          rw [← Option.some.inj hg]; exact this
        · rw [if_neg e] at hg; exact c.ai fd' g hg

theorem ans64 {c1 c2 : Nat} {own : Int} (hw : h.wf) (r : TblR t s h F) (hl : s.own.length ≤ 1000) (h1 : h.get c1 = some (.row [.ptr (some (t, 0))] 1 false)) (h2 : h.get c2 = some (.row [.int .u32 own] 1 false)) :
    Ans h s.S ⟨64, [.ptr (some (c1, 0)), .ptr (some (c2, 0))], fun _ => if own ∈ s.own then 0 else 2⟩ := by
  obtain ⟨mf, ms, po, G, GP, a, f, at0, rfl⟩ := r
  refine ⟨by kernel_rfl, fun x hx g hs => ?_⟩
  have lt0 := at0.lt hw
  have atg := at0.loc fun j hj => hs j (lt0 j hj)
  have g1 := (hs _ (hw.lt h1)).trans h1
  have g2 := (hs _ (hw.lt h2)).trans h2
  apply x64; unfold X64
  refine ⟨some (t, 0), by rw [Hp.ld_of g1]; rfl, a, _, f, by rw [Hp.ld_of atg.row]; rfl, own, by rw [Hp.ld_of g2]; rfl, (contains_spec (Own.rd32 atg.own) (by omega)).mono ?_⟩
  rintro _ g' ⟨rfl, rfl⟩
  refine ⟨_, rfl, (unless_spec _ _).mono ?_⟩
  rintro _ g' ⟨rfl, rfl⟩
  exact ⟨_, rfl, by simp, rfl⟩

theorem kplace {fd own draw : Int} (hw : h.wf) (r : TblR t s h F) (c : CI s) (hd : 0 ≤ draw ∧ draw < 65536) : XCalls Try.prog 29 [.ptr (some (t, 0)), .int .i64 fd, .int .u32 own, .int .u16 draw] h fun v h' => (∃ n : Int, v = .int .i64 n) ∧ Post t s h F h' := by
  have hFlt : ∀ j ∈ F, j < h.next := fun j hj => (TblR.rep t s).lt hw r hj
  refine XCalls.cps fun K hK => ?_
  apply x29; unfold X29
  rintro g1 rfl g2 rfl
  have q1 : Quiet h (h.alloc (.row [.ptr (some (t, 0))] 1 false)) := Ports.Quiet.alloc hw _
  have q2 := q1.trans (Ports.Quiet.alloc q1.wf (.row [.int .u32 own] 1 false))
  have e1 : (h.alloc (.row [.ptr (some (t, 0))] 1 false)).next = h.next + 1 := rfl
  generalize hg2 : (h.alloc (.row [.ptr (some (t, 0))] 1 false)).alloc (.row [.int .u32 own] 1 false) = g2 at q2
  have hn2 : g2.next = h.next + 2 := by rw [← hg2]; rfl
  have ct : g2.get h.next = some (.row [.ptr (some (t, 0))] 1 false) := by rw [← hg2, Hp.get_alloc_ne (by rw [e1]; omega)]; exact Hp.get_alloc_self
  have co : g2.get (h.next + 1) = some (.row [.int .u32 own] 1 false) := by rw [← hg2, ← e1]; exact Hp.get_alloc_self
  clear hg2
  simp only [e1] at *
  refine ⟨some (t, 0), by rw [Hp.ld_of ct]; rfl, ?_⟩
  rintro g3 rfl
  have q3 := q2.trans (Ports.Quiet.alloc q2.wf (.row [.fn (.func 64) [] [.ptr (some (h.next, 0)), .ptr (some (h.next + 1, 0))], .fn (.func 41) [] []] 1 false))
  generalize hg3 : g2.alloc (.row [.fn (.func 64) [] [.ptr (some (h.next, 0)), .ptr (some (h.next + 1, 0))], .fn (.func 41) [] []] 1 false) = g3 at q3
  have hs3 : ∀ j, j < g2.next → g3.get j = g2.get j := fun j hj => by rw [← hg3]; exact Hp.get_alloc_ne (by omega)
  have hq3 : ClsAt g3 g2.next [⟨64, [.ptr (some (h.next, 0)), .ptr (some (h.next + 1, 0))], fun _ => if own ∈ s.own then 0 else 2⟩, cl41] := by unfold ClsAt; rw [← hg3]; exact Hp.get_alloc_self
  have hn3 : g3.next = h.next + 3 := by rw [← hg3, Hp.alloc_next]; omega
  clear hg3
  have ct3 := (hs3 _ (by omega)).trans ct
  have co3 := (hs3 _ (by omega)).trans co
  have r3 := (TblR.rep t s).stay hw r q3.same
  refine (asks_spec (l := [⟨64, [.ptr (some (h.next, 0)), .ptr (some (h.next + 1, 0))], fun _ => if own ∈ s.own then 0 else 2⟩, cl41]) q3.wf r3 hq3 (fun cl hc => ?_) (by simp)).mono ?_
  · simp only [List.mem_cons, List.not_mem_nil, or_false] at hc
    rcases hc with rfl | rfl
    · exact ans64 q3.wf r3 c.ol ct3 co3
    · exact ans41 q3.wf r3
  rintro v g4 ⟨q4, hv⟩
  have qq := q3.trans q4
  have l4 := q4.le
  have r4 := (TblR.rep t s).stay hw r qq.same
  have ct4 := (q4.same _ (by omega)).trans ct3
  have co4 := (q4.same _ (by omega)).trans co3
  generalize askC s fd _ = code at hv
  by_cases hc0 : code = 0
  · rw [if_pos hc0] at hv
    obtain ⟨f1, x, hm, hsf, rfl, hk, _⟩ := hv
    refine ⟨_, _, _, rfl, ?_⟩
    simp only [bne_self_eq_false, cond_false, onS]
    obtain ⟨mf, ms, po, G, GP, a, f, at4, hFe⟩ := r4
    have hxm := (sfind_mem hsf).1
    have hxF : x.o ∈ F := by rw [hFe]; simp; exact .inr (.inr (.inr (.inl ⟨x, hxm, rfl⟩)))
    have hxl := hFlt _ hxF
    have hdx := at4.desks x hxm
    refine ⟨some (t, 0), by rw [Hp.ld_of ct4]; rfl, ?_⟩
    simp only [onS]
    refine ⟨some (po, 0), by rw [Hp.ld_of at4.row]; rfl, x.d.proto, by rw [Hp.ld_of hdx]; rfl, own, by rw [Hp.ld_of co4]; rfl, ?_⟩
    refine (Ports.lend_spec (s := f1.id) (draw := draw) (b := ⟨x.d.proto, own, 0, false⟩) qq.wf at4.ports hd).mono ?_
    rintro _ g5 ⟨code, port, P', rfl, hL, p5, u5, wf5⟩
    have at5 := at4.setPorts qq.wf p5 u5
    have hPn : ∀ j, h.next ≤ j → j ∉ GP := fun j hj hm => by have := hFlt j (by rw [hFe]; simp [hm]); omega
    have l5 := u5.le
    have co5 := (u5.same _ (by omega) (hPn _ (by omega))).trans co4
    have hlow : ∀ j, j < h.next → j ∉ F → g5.get j = h.get j := fun j hj hF => by
      rw [u5.same j (by omega) (fun hm => hF (by rw [hFe]; simp [hm]))]; exact qq.same j hj
    refine ⟨_, _, rfl, ?_⟩
    by_cases hc : code = 0
    · subst hc
      simp only [beq_self_eq_true, cond_true]
      have hd5 := at5.desks x hxm
      refine ⟨x.d.proto, by rw [Hp.ld_of hd5]; rfl, own, by rw [Hp.ld_of co5]; rfl, _, Hp.st_of hd5 (Nat.le_of_ble_eq_true rfl), (by trivial), (by trivial), ⟨own, ?_, rfl⟩, (by trivial), ?_⟩
      · rw [Hp.ld_of (show (g5.set x.o _).get (h.next + 1) = _ from (Hp.get_set_ne (by omega)).trans co5)]; rfl
      refine ⟨_, Hp.st_of Hp.get_set_self (Nat.le_of_ble_eq_true rfl), hK _ _ ⟨⟨_, rfl⟩, ⟨fun j hj hF => ?_, fun j hj => .inl hj, by simp only [Hp.set_next]; omega⟩, (wf5.set (by omega)).set (by simp only [Hp.set_next]; omega), { s with S := supd s.S x.o { x.d with st := 1, b := ⟨x.d.proto, own, port, false⟩ }, P := P' }, ⟨rfl, rfl, fun _ => rfl, (c.supd x.o { x.d with st := 1, b := ⟨x.d.proto, own, port, false⟩ }).lend (L' := P') hL⟩, mf, ms, po, G, GP, a, f, ?_, ?_⟩⟩
      · have hne : j ≠ x.o := fun e => hF (e ▸ hxF)
        rw [Hp.get_set_ne hne, Hp.get_set_ne hne]; exact hlow j hj hF
      · have a6 := at5.setDesk hxm { x.d with st := 1 }
        have a7 := a6.setDesk (supd_mem hxm { x.d with st := 1 }) { x.d with st := 1, b := ⟨x.d.proto, own, port, false⟩ }
        simp only [supd_supd] at a7
        exact a7
      · rw [hFe]; show _ = t :: mf :: ms :: ((supd s.S x.o _).map Sk.o ++ (G ++ GP)); rw [supd_o]
    · have b : (code == 0) = false := by simp [hc]
      simp only [b, cond_false]
      exact hK _ _ ⟨⟨_, rfl⟩, ⟨hlow, fun j hj => .inl hj, by omega⟩, wf5, { s with P := P' }, ⟨rfl, rfl, fun _ => rfl, c.lend hL⟩, mf, ms, po, G, GP, a, f, at5, hFe⟩
  · rw [if_neg hc0] at hv
    subst hv
    refine ⟨_, _, _, rfl, ?_⟩
    have b : (code != 0) = true := by simp [hc0]
    simp only [b, cond_true]
    exact hK _ _ ⟨⟨_, rfl⟩, qq.upd _, qq.wf, s, Same.refl c, r4⟩

theorem without_ci {s : TS} (c : CI s) (id : Int) : CI { s with P := without s.P [id] } :=
  ⟨c.pn.sublist (List.Sublist.map _ List.filter_sublist), Nat.le_trans (List.length_filter_le _ _) c.pl, c.sn, c.sl, c.al, c.ai, c.an, c.ol, c.ml⟩

theorem kback {id : Int} (hw : h.wf) (r : TblR t s h F) (c : CI s) : XCalls Try.prog 30 [.ptr (some (t, 0)), .int .u64 id] h fun v h' => (∃ b : Bool, v = .bool b) ∧ Post t s h F h' := by
  have r0 := r
  obtain ⟨mf, ms, po, G, GP, a, f, at0, hFe⟩ := r
  have lt0 := at0.lt hw
  refine XCalls.cps fun K hK => ?_
  have stay : ∀ b : Bool, K (.bool b) h := fun b => hK _ _ ⟨⟨_, rfl⟩, Upd.refl _ _, hw, s, Same.refl c, r0⟩
  apply x30; unfold X30
  obtain ⟨oS, hS, moS⟩ := at0.socks
  have hlS := moS.look mtS id h ms hS
  rw [mget_sk] at hlS
  refine ⟨some ms, by rw [Hp.ld_of at0.row]; rfl, (sfind s.S id).map fun x => (x.o, 0), by rw [hlS]; cases sfind s.S id <;> rfl, ?_⟩
  cases hsf : sfind s.S id with
  | none =>
    simp only [Option.map_none, Option.isNone_none, cond_true]
    exact stay _
  | some x =>
    rw [hsf] at hlS
    simp only [Option.map_some, Option.isNone_some, cond_false]
    have hxm := (sfind_mem hsf).1
    have hxF : x.o ∈ F := by rw [hFe]; simp; exact .inr (.inr (.inr (.inl ⟨x, hxm, rfl⟩)))
    have hxl : x.o < h.next := lt0 _ (by rw [← hFe]; exact hxF)
    have hdx := at0.desks x hxm
    refine ⟨some ms, by rw [Hp.ld_of at0.row]; rfl, _, hlS, x.d.st, by rw [Hp.ld_of hdx]; rfl, ?_⟩
    cases b1 : (x.d.st != 3) with
    | true => exact stay _
    | false =>
    refine ⟨some ms, by rw [Hp.ld_of at0.row]; rfl, _, hlS, x.d.b.kind, by rw [Hp.ld_of hdx]; rfl, ?_⟩
    cases b2 : (x.d.b.kind == 0) with
    | true => exact stay _
    | false =>
    refine ⟨some ms, by rw [Hp.ld_of at0.row]; rfl, _, hlS, x.d.was, by rw [Hp.ld_of hdx]; rfl, _, Hp.st_of hdx (Nat.le_of_ble_eq_true rfl), _, Hp.st_of Hp.get_set_self (Nat.le_of_ble_eq_true rfl), x.d.was, by rw [Hp.ld_of Hp.get_set_self]; rfl, ?_⟩
    have a1 := at0.setDesk hxm { x.d with st := x.d.was }
    have a2 := a1.setDesk (supd_mem hxm { x.d with st := x.d.was }) { x.d with st := x.d.was, fip := 0, fport := 0, tip := 0, tport := 0 }
    simp only [supd_supd] at a2
    generalize hg2 : (h.set x.o (.row (dkL { x.d with st := x.d.was }) 1 false)).set x.o (.row (dkL { x.d with st := x.d.was, fip := 0, fport := 0, tip := 0, tport := 0 }) 1 false) = g2 at a2
    have hg2' : (h.set x.o (.row (splice (dkL x.d) (0 + 0 + 1) [.int .u8 x.d.was]) 1 false)).set x.o (.row (splice (splice (dkL x.d) (0 + 0 + 1) [.int .u8 x.d.was]) (0 + 0 + 6) [.int .u32 0, .int .u16 0, .int .u32 0, .int .u16 0]) 1 false) = g2 := hg2
    rw [hg2']
    have hs2 : ∀ j, j ≠ x.o → g2.get j = h.get j := fun j hj => by rw [← hg2, Hp.get_set_ne hj, Hp.get_set_ne hj]
    have hn2 : g2.next = h.next := by rw [← hg2]; rfl
    have wf2 : g2.wf := by rw [← hg2]; exact (hw.set hxl).set (by simp only [Hp.set_next]; exact hxl)
    clear hg2 hg2'
    have hx2 := supd_mem hxm { x.d with st := x.d.was, fip := 0, fport := 0, tip := 0, tport := 0 }
    have c2 := c.supd x.o { x.d with st := x.d.was, fip := 0, fport := 0, tip := 0, tport := 0 }
    have hFe2 : F = t :: mf :: ms :: ((supd s.S x.o { x.d with st := x.d.was, fip := 0, fport := 0, tip := 0, tport := 0 }).map Sk.o ++ (G ++ GP)) := by rw [supd_o]; exact hFe
    cases b3 : (x.d.was == 0) with
    | false =>
      exact hK _ _ ⟨⟨_, rfl⟩, ⟨fun j hj hF => hs2 j fun e => hF (e ▸ hxF), fun j hj => .inl hj, by omega⟩, wf2, same_mk (show TblR t _ _ _ from ⟨mf, ms, po, G, GP, a, f, a2, hFe2⟩) c2 rfl rfl fun _ => rfl⟩
    | true =>
      have hd2 := a2.desks _ hx2
      simp only at hd2
      refine ⟨_, Hp.st_of hd2 (Nat.le_of_ble_eq_true rfl), ?_⟩
      have a3 := a2.setDesk hx2 { x.d with st := x.d.was, b := ⟨0, 0, 0, false⟩, fip := 0, fport := 0, tip := 0, tport := 0 }
      simp only [supd_supd] at a3
      generalize hg3 : g2.set x.o (.row (dkL { x.d with st := x.d.was, b := ⟨0, 0, 0, false⟩, fip := 0, fport := 0, tip := 0, tport := 0 }) 1 false) = g3 at a3
      have hg3' : g2.set x.o (.row (splice (dkL { x.d with st := x.d.was, fip := 0, fport := 0, tip := 0, tport := 0 }) (0 + 0 + 2) [.int .u8 0, .int .u32 0, .int .u16 0, .bool false]) 1 false) = g3 := hg3
      rw [hg3']
      have hs3 : ∀ j, j ≠ x.o → g3.get j = h.get j := fun j hj => by rw [← hg3, Hp.get_set_ne hj]; exact hs2 j hj
      have hn3 : g3.next = h.next := by rw [← hg3]; exact hn2
      have wf3 : g3.wf := by rw [← hg3]; exact wf2.set (by omega)
      clear hg3 hg3'
      refine ⟨some (po, 0), by rw [Hp.ld_of a3.row]; rfl, ?_⟩
      rintro g4 rfl
      have ap := apart a3.nd
      have hst : ∀ j, j < g3.next → (g3.alloc (.row [.int .u64 id] 1 false)).get j = g3.get j := fun j hj => Hp.get_alloc_ne (by omega)
      have lt3 := a3.lt wf3
      have a4 := a3.loc fun j hj => hst j (lt3 j hj)
      have hrd : Ports.Rd (some (g3.next, 0)) 1 [id] (g3.alloc (.row [.int .u64 id] 1 false)) := by
        refine ⟨rfl, fun hn => ?_⟩
        exact ⟨g3.next, 0, _, _, _, rfl, Hp.get_alloc_self, fun k hk => by
          obtain rfl : k = 0 := by omega
          rfl⟩
      refine (Ports.give_spec (a := some (g3.next, 0)) (n := 1) (xs := [id]) wf3.alloc a4.ports c.pn (Nat.lt_of_le_of_lt c.pl (by omega)) hrd (by omega) (fun q o e => by
        cases e
        intro hm; have := lt3 g3.next (by simp [hm]); omega)).mono ?_
      rintro _ g5 ⟨rfl, p5, u5, wf5⟩
      have a5 := a4.setPorts wf3.alloc p5 u5
      refine ⟨_, rfl, hK _ _ ⟨⟨_, rfl⟩, ⟨fun j hj hF => ?_, fun j hj => .inl hj, ?_⟩, wf5, same_mk (show TblR t _ _ _ from ⟨mf, ms, po, G, GP, a, f, a5, ?_⟩) (without_ci (c.supd x.o { x.d with st := x.d.was, b := ⟨0, 0, 0, false⟩, fip := 0, fport := 0, tip := 0, tport := 0 }) id) rfl rfl fun _ => rfl⟩⟩
      · rw [u5.same j (by rw [Hp.alloc_next]; omega) (fun hm => hF (by rw [hFe]; simp [hm])), hst j (by omega), hs3 j (fun e => hF (e ▸ hxF))]
      · have := u5.le; rw [Hp.alloc_next] at this; omega
      · show F = t :: mf :: ms :: ((supd s.S x.o _).map Sk.o ++ (G ++ GP)); rw [supd_o]; exact hFe
end

/-! ### the reference, empty -/

def REmp (r : Nat) (h : Hp) : Prop := ∃ p, h.get r = some (.row [.int .i64 1, .slc none 0 true, .slc none 0 true, .slc none 0 true, .ptr p, .int .u64 0] 1 false)

section
variable {h : Hp} {r : Nat}

theorem rnew {h : Hp} (hw : h.wf) : XCalls Try.prog 23 [.int .i64 1, .slc none 0 true] h fun v h' => ∃ r, v = .ptr (some (r, 0)) ∧ REmp r h' ∧ Quiet h h' ∧ h.next ≤ r := by
  apply x23; unfold X23
  rintro g1 rfl g2 rfl
  exact ⟨_, rfl, ⟨_, Hp.get_alloc_self⟩, (Ports.Quiet.alloc hw _).trans (Ports.Quiet.alloc hw.alloc _), by rw [Hp.alloc_next]; omega⟩

theorem r53 {fd : Int} (e : REmp r h) : XCalls Try.prog 53 [.ptr (some (r, 0)), .int .i64 fd] h fun v h' => v = .int .i64 (-1) ∧ h' = h := by
  obtain ⟨p, e⟩ := e
  apply x53; unfold X53
  refine ⟨fun vs g => vs = [.int .i64 0] ∧ g = h, fun _ _ => 0, ⟨(by trivial), rfl, rfl⟩, ?_⟩
  rintro bs i g ⟨e1, rfl⟩
  have e1 : i = 0 := by simpa using e1
  subst e1
  refine ⟨none, 0, true, by rw [Hp.ld_of e]; rfl, ?_⟩
  exact ⟨rfl, rfl⟩

theorem r77 {id : Int} (e : REmp r h) : XCalls Try.prog 77 [.ptr (some (r, 0)), .int .u64 id] h fun v h' => v = .int .i64 (-1) ∧ h' = h := by
  obtain ⟨p, e⟩ := e
  apply x77; unfold X77
  refine ⟨fun vs g => vs = [.int .i64 0] ∧ g = h, fun _ _ => 0, ⟨(by trivial), rfl, rfl⟩, ?_⟩
  rintro bs i g ⟨e1, rfl⟩
  have e1 : i = 0 := by simpa using e1
  subst e1
  refine ⟨none, 0, true, by rw [Hp.ld_of e]; rfl, ?_⟩
  exact ⟨rfl, rfl⟩

theorem r73 {fd : Int} (e : REmp r h) : XCalls Try.prog 73 [.ptr (some (r, 0)), .int .i64 fd] h fun v h' => v = .int .i64 (-1) ∧ h' = h := by
  apply x73; unfold X73
  refine (r53 e).mono ?_
  rintro _ g ⟨rfl, rfl⟩
  exact ⟨_, rfl, rfl, rfl⟩

theorem r54 {fd : Int} {is : Bool} (e : REmp r h) : XCalls Try.prog 54 [.ptr (some (r, 0)), .int .i64 fd, .bool is] h fun v h' => v = .int .i64 290 ∧ h' = h := by
  apply x54; unfold X54
  refine (r73 e).mono ?_
  rintro _ g ⟨rfl, rfl⟩
  exact ⟨_, rfl, rfl, rfl⟩

theorem r56 {fd : Int} (e : REmp r h) : XCalls Try.prog 56 [.ptr (some (r, 0)), .int .i64 fd] h fun v h' => v = .int .i64 290 ∧ h' = h := by
  apply x56; unfold X56
  refine (r73 e).mono ?_
  rintro _ g ⟨rfl, rfl⟩
  exact ⟨_, rfl, rfl, rfl⟩

theorem r62 {fd own draw : Int} (e : REmp r h) : XCalls Try.prog 62 [.ptr (some (r, 0)), .int .i64 fd, .int .u32 own, .int .u16 draw] h fun v h' => v = .int .i64 290 ∧ h' = h := by
  apply x62; unfold X62
  refine (r73 e).mono ?_
  rintro _ g ⟨rfl, rfl⟩
  exact ⟨_, rfl, rfl, rfl⟩

theorem r61 {id : Int} (e : REmp r h) : XCalls Try.prog 61 [.ptr (some (r, 0)), .int .u64 id] h fun v h' => v = .bool false ∧ h' = h := by
  apply x61; unfold X61
  refine (r77 e).mono ?_
  rintro _ g ⟨rfl, rfl⟩
  exact ⟨_, rfl, rfl, rfl⟩

theorem r55 {fd ip port : Int} (hw : h.wf) (e : REmp r h) : XCalls Try.prog 55 [.ptr (some (r, 0)), .int .i64 fd, .agg [.int .u32 ip, .int .u16 port]] h fun v h' => v = .int .i64 290 ∧ Quiet h h' := by
  obtain ⟨p, e⟩ := e
  apply x55; unfold X55
  rintro g1 rfl
  refine (r73 ⟨p, (Hp.get_alloc_ne (by have := hw.lt e; omega)).trans e⟩).mono ?_
  rintro _ g ⟨rfl, rfl⟩
  exact ⟨_, rfl, rfl, Ports.Quiet.alloc hw _⟩

theorem r57 {fd own tip tport draw : Int} (hw : h.wf) (e : REmp r h) : XCalls Try.prog 57 [.ptr (some (r, 0)), .int .i64 fd, .int .u32 own, .agg [.int .u32 tip, .int .u16 tport], .int .u16 draw] h fun v h' => v = .tup [.agg [.int .u32 0, .int .u16 0, .int .u32 0, .int .u16 0], .int .i64 290] ∧ Quiet h h' := by
  obtain ⟨p, e⟩ := e
  have hr := hw.lt e
  apply x57; unfold X57
  rintro g1 rfl g2 rfl
  have q1 := Ports.Quiet.alloc hw (.row [.int .u32 tip, .int .u16 tport] 1 false)
  have q2 := q1.trans (Ports.Quiet.alloc q1.wf (.row [.int .u32 0, .int .u16 0, .int .u32 0, .int .u16 0] 1 false))
  refine (r73 ⟨p, (q2.same r hr).trans e⟩).mono ?_
  rintro _ g ⟨rfl, rfl⟩
  have : ltI (-1) 0 = true := by decide
  refine ⟨_, rfl, ?_⟩
  rw [this]
  refine ⟨_, Hp.st_of Hp.get_alloc_self (Nat.le_of_ble_eq_true rfl), 0, 0, 0, 0, by rw [Hp.lda_of Hp.get_set_self (Nat.le_of_ble_eq_true rfl)]; rfl, rfl, fun j hj => ?_, by simp only [Hp.set_next, Hp.alloc_next]; omega, q2.wf.set (by simp [Hp.alloc_next])⟩
  rw [Hp.get_set_ne (by simp only [Hp.alloc_next]; omega)]; exact q2.same j hj
end

theorem cond_both {b : Bool} {p q : Prop} (hp : p) (hq : q) : cond b p q := by cases b <;> assumption

/-- a step of the program's beside an empty reference -/
theorem doest_spec {h : Hp} {t r : Nat} {s : TS} {F : List Nat} {d p fd ip port own draw id : Int} {is : Bool} (hw : h.wf) (hr : TblR t s h F) (c : CI s) (e : REmp r h) (hrF : r ∉ F) (hd : d ≠ 0 ∧ d ≠ 6 ∧ d ≠ 7 ∧ d ≠ 8) (hdr : 0 ≤ draw ∧ draw < 65536) :
    XCalls Try.prog 22 [.ptr (some (t, 0)), .ptr (some (r, 0)), .agg [.int .i64 d, .int .u8 p, .int .i64 fd, .bool is, .int .u32 ip, .int .u16 port, .int .u32 own, .int .u16 draw, .int .u64 id]] h fun v h' => (∃ b : Bool, v = .bool b) ∧ Post t s h F h' := by
  obtain ⟨pr, e⟩ := e
  have hrl := hw.lt e
  refine XCalls.cps fun K hK => ?_
  apply x22; unfold X22
  rintro g1 rfl
  generalize hz : O.row [.int .i64 d, .int .u8 p, .int .i64 fd, .bool is, .int .u32 ip, .int .u16 port, .int .u32 own, .int .u16 draw, .int .u64 id] 1 false = z
  have q1 : Quiet h (h.alloc z) := Ports.Quiet.alloc hw _
  have row1 : (h.alloc z).get h.next = some z := Hp.get_alloc_self
  have n1 : (h.alloc z).next = h.next + 1 := rfl
  generalize h.alloc z = g1 at q1 row1 n1
  subst hz
  have r1 := (TblR.rep t s).stay hw hr q1.same
  have e1 : g1.get r = _ := (q1.same r hrl).trans e
  have hF : h.next ∉ F := fun hm => by have := (TblR.rep t s).lt hw hr hm; omega
  -- behind the program's call
  have after : ∀ {g2 : Hp}, Post t s g1 F g2 → g2.get h.next = some (.row [.int .i64 d, .int .u8 p, .int .i64 fd, .bool is, .int .u32 ip, .int .u16 port, .int .u32 own, .int .u16 draw, .int .u64 id] 1 false) ∧ REmp r g2 ∧ Post t s h F g2 ∧ g1.next ≤ g2.next ∧ g2.wf := fun {g2} ⟨u, wf, s', hs, r'⟩ =>
    ⟨(u.same _ (by omega) hF).trans row1, ⟨pr, (u.same r (by omega) hrF).trans e1⟩, ⟨(q1.upd F).trans u, wf, s', hs, r'⟩, u.le, wf⟩
  have quiet : ∀ {g2 g3 : Hp}, Post t s h F g2 → Quiet g2 g3 → Post t s h F g3 := fun {g2 g3} ⟨u, wf, s', hs, r'⟩ q => ⟨u.trans (q.upd F), q.wf, s', hs, (TblR.rep t s').stay wf r' q.same⟩
  refine ⟨d, by rw [Hp.ld_of row1]; rfl, ?_⟩
  have d0 : (d == 0) = false := by simp [hd.1]
  have d6 : (d == 6) = false := by simp [hd.2.1]
  have d7 : (d == 7) = false := by simp [hd.2.2.1]
  have d8 : (d == 8) = false := by simp [hd.2.2.2]
  simp only [d0, d6, d7, d8, cond_false]
  cases d1 : d == 1 with
  | true =>
    refine ⟨fd, by rw [Hp.ld_of row1]; rfl, is, by rw [Hp.ld_of row1]; rfl, (kcalm q1.wf r1 c).mono ?_⟩
    rintro _ g2 ⟨⟨n, rfl⟩, po⟩
    obtain ⟨row2, e2, po2, _, _⟩ := after po
    refine ⟨n, rfl, fd, by rw [Hp.ld_of row2]; rfl, (r53 e2).mono ?_⟩
    rintro _ g3 ⟨rfl, rfl⟩
    exact ⟨_, rfl, hK _ _ ⟨⟨_, rfl⟩, po2⟩⟩
  | false =>
  cases d2 : d == 2 with
  | true =>
    refine ⟨fd, by rw [Hp.ld_of row1]; rfl, is, by rw [Hp.ld_of row1]; rfl, fd, by rw [Hp.ld_of row1]; rfl, is, by rw [Hp.ld_of row1]; rfl, (kshare q1.wf r1 c).mono ?_⟩
    rintro _ g2 ⟨⟨n, rfl⟩, po⟩
    obtain ⟨row2, e2, po2, _, _⟩ := after po
    refine ⟨n, rfl, ⟨is, by rw [Hp.ld_of row2]; rfl, rfl⟩, (by trivial), ⟨fd, by rw [Hp.ld_of row2]; rfl, rfl⟩, (by trivial), (by trivial), (r54 e2).mono ?_⟩
    rintro _ g3 ⟨rfl, rfl⟩
    exact ⟨_, rfl, hK _ _ ⟨⟨_, rfl⟩, po2⟩⟩
  | false =>
  cases d3 : d == 3 with
  | true =>
    refine ⟨fd, by rw [Hp.ld_of row1]; rfl, ip, port, by rw [Hp.lda_of row1 (Nat.le_of_ble_eq_true rfl)]; rfl, fd, by rw [Hp.ld_of row1]; rfl, ip, port, by rw [Hp.lda_of row1 (Nat.le_of_ble_eq_true rfl)]; rfl, (kbind q1.wf r1 c).mono ?_⟩
    rintro _ g2 ⟨⟨n, rfl⟩, po⟩
    obtain ⟨row2, e2, po2, _, wf2⟩ := after po
    refine ⟨n, rfl, ⟨ip, port, by rw [Hp.lda_of row2 (Nat.le_of_ble_eq_true rfl)]; rfl, rfl⟩, (by trivial), ⟨fd, by rw [Hp.ld_of row2]; rfl, rfl⟩, (by trivial), (by trivial), (r55 wf2 e2).mono ?_⟩
    rintro _ g3 ⟨rfl, q3⟩
    exact ⟨_, rfl, hK _ _ ⟨⟨_, rfl⟩, quiet po2 q3⟩⟩
  | false =>
  cases d4 : d == 4 with
  | true =>
    refine ⟨fd, by rw [Hp.ld_of row1]; rfl, fd, by rw [Hp.ld_of row1]; rfl, (klisten q1.wf r1 c).mono ?_⟩
    rintro _ g2 ⟨⟨n, rfl⟩, po⟩
    obtain ⟨row2, e2, po2, _, wf2⟩ := after po
    refine ⟨n, rfl, ⟨fd, by rw [Hp.ld_of row2]; rfl, rfl⟩, (by trivial), (by trivial), (r56 e2).mono ?_⟩
    rintro _ g3 ⟨rfl, rfl⟩
    exact ⟨_, rfl, hK _ _ ⟨⟨_, rfl⟩, po2⟩⟩
  | false =>
  cases d5 : d == 5 with
  | true =>
    refine ⟨fd, by rw [Hp.ld_of row1]; rfl, own, by rw [Hp.ld_of row1]; rfl, ip, port, by rw [Hp.lda_of row1 (Nat.le_of_ble_eq_true rfl)]; rfl, draw, by rw [Hp.ld_of row1]; rfl, (kconnect q1.wf r1 c hdr).mono ?_⟩
    rintro _ g2 ⟨⟨n1', n2', n3', n4', n, rfl⟩, po⟩
    obtain ⟨row2, e2, po2, l2, wf2⟩ := after po
    refine ⟨_, _, _, _, _, rfl, ?_⟩
    rintro g3 rfl
    refine ⟨_, Hp.st_of Hp.get_alloc_self (Nat.le_of_ble_eq_true rfl), ?_⟩
    generalize hg4 : (g2.alloc _).set g2.next _ = g4
    have pr4 : g4.get g2.next = some (.row [.int .u32 n1', .int .u16 n2', .int .u32 n3', .int .u16 n4'] 1 false) := by rw [← hg4]; exact Hp.get_set_self
    have q4 : Quiet g2 g4 := ⟨fun j hj => by rw [← hg4, Hp.get_set_ne (by omega), Hp.get_alloc_ne (by omega)], by rw [← hg4]; simp only [Hp.set_next, Hp.alloc_next]; omega, by rw [← hg4]; exact wf2.alloc.set (by simp [Hp.alloc_next])⟩
    have n4 : g4.next = g2.next + 1 := by rw [← hg4]; rfl
    clear hg4
    have row4 := (q4.same h.next (by omega)).trans row2
    obtain ⟨pr2, e2'⟩ := e2
    have e4 : REmp r g4 := ⟨pr2, (q4.same r (wf2.lt e2')).trans e2'⟩
    refine ⟨fd, by rw [Hp.ld_of row4]; rfl, own, by rw [Hp.ld_of row4]; rfl, ip, port, by rw [Hp.lda_of row4 (Nat.le_of_ble_eq_true rfl)]; rfl, draw, by rw [Hp.ld_of row4]; rfl, (r57 q4.wf e4).mono ?_⟩
    rintro _ g5 ⟨rfl, q5⟩
    refine ⟨0, 0, 0, 0, 290, rfl, ?_⟩
    rintro g6 rfl
    refine ⟨_, Hp.st_of Hp.get_alloc_self (Nat.le_of_ble_eq_true rfl), ?_⟩
    generalize hg7 : (g5.alloc _).set g5.next _ = g7
    have pr7 : g7.get g5.next = some (.row [.int .u32 0, .int .u16 0, .int .u32 0, .int .u16 0] 1 false) := by rw [← hg7]; exact Hp.get_set_self
    have q7 : Quiet g5 g7 := ⟨fun j hj => by rw [← hg7, Hp.get_set_ne (by omega), Hp.get_alloc_ne (by omega)], by rw [← hg7]; simp only [Hp.set_next, Hp.alloc_next]; omega, by rw [← hg7]; exact q5.wf.alloc.set (by simp [Hp.alloc_next])⟩
    clear hg7
    have l5 := q5.le
    have pr4' := (q7.same g2.next (by omega)).trans ((q5.same g2.next (by omega)).trans pr4)
    refine ⟨n1', n2', n3', n4', by rw [Hp.lda_of pr4' (Nat.le_of_ble_eq_true rfl)]; rfl, 0, 0, 0, 0, by rw [Hp.lda_of pr7 (Nat.le_of_ble_eq_true rfl)]; rfl, ?_⟩
    have po7 := quiet po2 ((q4.trans q5).trans q7)
    exact cond_both (hK _ _ ⟨⟨_, rfl⟩, po7⟩) (hK _ _ ⟨⟨_, rfl⟩, po7⟩)
  | false =>
  cases d10 : d == 10 with
  | true =>
    refine ⟨id, by rw [Hp.ld_of row1]; rfl, id, by rw [Hp.ld_of row1]; rfl, (kback q1.wf r1 c).mono ?_⟩
    rintro _ g2 ⟨⟨n, rfl⟩, po⟩
    obtain ⟨row2, e2, po2, _, wf2⟩ := after po
    refine ⟨n, rfl, ⟨id, by rw [Hp.ld_of row2]; rfl, rfl⟩, (by trivial), (by trivial), (r61 e2).mono ?_⟩
    rintro _ g3 ⟨rfl, rfl⟩
    exact ⟨_, rfl, hK _ _ ⟨⟨_, rfl⟩, po2⟩⟩
  | false =>
  cases d9 : d == 9 with
  | true =>
    refine ⟨fd, by rw [Hp.ld_of row1]; rfl, own, by rw [Hp.ld_of row1]; rfl, draw, by rw [Hp.ld_of row1]; rfl, fd, by rw [Hp.ld_of row1]; rfl, own, by rw [Hp.ld_of row1]; rfl, draw, by rw [Hp.ld_of row1]; rfl, (kplace q1.wf r1 c hdr).mono ?_⟩
    rintro _ g2 ⟨⟨n, rfl⟩, po⟩
    obtain ⟨row2, e2, po2, _, wf2⟩ := after po
    refine ⟨n, rfl, ⟨draw, by rw [Hp.ld_of row2]; rfl, rfl⟩, (by trivial), ⟨own, by rw [Hp.ld_of row2]; rfl, rfl⟩, (by trivial), ⟨fd, by rw [Hp.ld_of row2]; rfl, rfl⟩, (by trivial), (by trivial), (r62 e2).mono ?_⟩
    rintro _ g3 ⟨rfl, rfl⟩
    exact ⟨_, rfl, hK _ _ ⟨⟨_, rfl⟩, po2⟩⟩
  | false =>
    exact hK _ _ ⟨⟨_, rfl⟩, q1.upd F, q1.wf, s, Same.refl c, r1⟩
end Go.Vex.Call
