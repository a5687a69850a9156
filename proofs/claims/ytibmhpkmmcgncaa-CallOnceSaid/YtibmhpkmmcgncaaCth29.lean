/-
  Contract of call.Table's Connect.
-/
import Derived.Test.YtibmhpkmmcgncaaVexGG
import Derived.Test.YtibmhpkmmcgncaaTab29
import Derived.Test.YtibmhpkmmcgncaaXp29
import Derived.Test.YtibmhpkmmcgncaaCpa29
import Derived.Test.YtibmhpkmmcgncaaCpb29
import Derived.Test.YtibmhpkmmcgncaaCpc29
import Derived.Test.YtibmhpkmmcgncaaCpd29
import Derived.Test.YtibmhpkmmcgncaaXta29
import Derived.Test.YtibmhpkmmcgncaaCta29
import Derived.Test.YtibmhpkmmcgncaaXtb29
import Derived.Test.YtibmhpkmmcgncaaCtb29
import Derived.Test.YtibmhpkmmcgncaaCtc29
import Derived.Test.YtibmhpkmmcgncaaXth29
set_option linter.unusedVariables false
set_option linter.unusedSimpArgs false
namespace Go.Vex.Call
open Go.Proofs
open Go.Vex.Ports (PortsR Bd bV bL b0 bindCode Quiet LendR)

theorem supd_supd (S : List Sk) (o : Nat) (d d' : Dk) : supd (supd S o d) o d' = supd S o d' := by
  unfold supd
  rw [List.map_map]
  apply List.map_congr_left
  intro y _
  simp only [Function.comp]
  by_cases e : y.o = o
  · simp [e]
  · simp [e]

theorem supd_mem {S : List Sk} {x : Sk} (hx : x ∈ S) (d : Dk) : (⟨x.id, x.o, d⟩ : Sk) ∈ supd S x.o d := List.mem_map.2 ⟨x, hx, by rw [if_pos rfl]⟩

section
variable {h : Hp} {t : Nat} {s : TS} {F : List Nat}

theorem ans48 (hw : h.wf) (r : TblR t s h F) : Ans h s.S ⟨48, [], fun d => if d.st != 2 then 0 else 3⟩ := by
  obtain ⟨mf, ms, po, G, GP, a, f, at0, rfl⟩ := r
  refine ⟨by kernel_rfl, fun x hx g hs => ?_⟩
  have hd : g.get x.o = some (.row (dkL x.d) 1 false) := by rw [hs _ (hw.lt (at0.desks x hx))]; exact at0.desks x hx
  apply x48; unfold X48
  refine ⟨x.d.st, by rw [Hp.ld_of hd]; rfl, (unless_spec _ _).mono ?_⟩
  rintro _ g' ⟨rfl, rfl⟩
  exact ⟨_, rfl, rfl, rfl⟩

theorem ans49 (hw : h.wf) (r : TblR t s h F) : Ans h s.S ⟨49, [], fun d => if d.st != 3 || d.proto == 1 then 0 else 292⟩ := by
  obtain ⟨mf, ms, po, G, GP, a, f, at0, rfl⟩ := r
  refine ⟨by kernel_rfl, fun x hx g hs => ?_⟩
  have hd : g.get x.o = some (.row (dkL x.d) 1 false) := by rw [hs _ (hw.lt (at0.desks x hx))]; exact at0.desks x hx
  apply x49; unfold X49
  refine ⟨x.d.st, by rw [Hp.ld_of hd]; rfl, ?_⟩
  cases hb : (x.d.st != 3) with
  | true =>
    refine (unless_spec _ _).mono ?_
    rintro _ g' ⟨rfl, rfl⟩
    exact ⟨_, rfl, by simp [hb], rfl⟩
  | false =>
    refine ⟨x.d.proto, by rw [Hp.ld_of hd]; rfl, (unless_spec _ _).mono ?_⟩
    rintro _ g' ⟨rfl, rfl⟩
    exact ⟨_, rfl, by simp [hb], rfl⟩

theorem ans47 {c1 c2 c3 : Nat} {own tip tport : Int} (hw : h.wf) (r : TblR t s h F) (hl : s.own.length ≤ 1000) (h1 : h.get c1 = some (.row [.ptr (some (t, 0))] 1 false)) (h2 : h.get c2 = some (.row [.int .u32 own] 1 false)) (h3 : h.get c3 = some (.row [.int .u32 tip, .int .u16 tport] 1 false)) :
    Ans h s.S ⟨47, [.ptr (some (c1, 0)), .ptr (some (c2, 0)), .ptr (some (c3, 0))], fun _ => if own ∈ s.own ∧ 0 < tip ∧ 0 < tport then 0 else 2⟩ := by
  obtain ⟨mf, ms, po, G, GP, a, f, at0, rfl⟩ := r
  refine ⟨by kernel_rfl, fun x hx g hs => ?_⟩
  have lt0 := at0.lt hw
  have atg := at0.loc fun j hj => hs j (lt0 j hj)
  have g1 := (hs _ (hw.lt h1)).trans h1
  have g2 := (hs _ (hw.lt h2)).trans h2
  have g3 := (hs _ (hw.lt h3)).trans h3
  apply x47; unfold X47
  refine ⟨some (t, 0), by rw [Hp.ld_of g1]; rfl, a, _, f, by rw [Hp.ld_of atg.row]; rfl, own, by rw [Hp.ld_of g2]; rfl, (contains_spec (Own.rd32 atg.own) (by omega)).mono ?_⟩
  rintro _ g' ⟨rfl, rfl⟩
  refine ⟨_, rfl, ?_⟩
  by_cases hm : own ∈ s.own
  · simp only [hm, decide_true, cond_true]
    refine ⟨tip, by rw [Hp.ld_of g3]; rfl, ?_⟩
    by_cases hi : 0 < tip
    · have : ltI 0 tip = true := by rw [ltI_eq, decide_eq_true_eq]; exact hi
      rw [this]
      refine ⟨tport, by rw [Hp.ld_of g3]; rfl, (unless_spec _ _).mono ?_⟩
      rintro _ g' ⟨rfl, rfl⟩
      refine ⟨_, rfl, ?_, rfl⟩
      rw [ltI_eq]; simp [hi]
    · have : ltI 0 tip = false := by rw [ltI_eq, decide_eq_false_iff_not]; exact hi
      rw [this]
      refine (unless_spec _ _).mono ?_
      rintro _ g' ⟨rfl, rfl⟩
      exact ⟨_, rfl, by simp [hi], rfl⟩
  · simp only [hm, decide_false, cond_false]
    refine (unless_spec _ _).mono ?_
    rintro _ g' ⟨rfl, rfl⟩
    exact ⟨_, rfl, by simp, rfl⟩

def cl47 (s : TS) (c1 c2 c3 : Nat) (own tip tport : Int) : Cl := ⟨47, [.ptr (some (c1, 0)), .ptr (some (c2, 0)), .ptr (some (c3, 0))], fun _ => if own ∈ s.own ∧ 0 < tip ∧ 0 < tport then 0 else 2⟩
def cl48 : Cl := ⟨48, [], fun d => if d.st != 2 then 0 else 3⟩
def cl49 : Cl := ⟨49, [], fun d => if d.st != 3 || d.proto == 1 then 0 else 292⟩
def connA (s : TS) (fd own tip tport : Int) : Int := askC s fd [cl47 s 0 0 0 own tip tport, cl48, cl49]
theorem askC_conn (s : TS) (fd own tip tport : Int) (c1 c2 c3 : Nat) : askC s fd [cl47 s c1 c2 c3 own tip tport, cl48, cl49] = connA s fd own tip tport := rfl

/-- a desk behind Connect -/
def conn (d : Dk) (own tip tport : Int) : Dk := { d with was := if d.st = 3 then d.was else d.st, st := 3, fip := if d.b.ip = 0 then own else d.b.ip, fport := d.b.port, tip := tip, tport := tport }
def pairV (d : Dk) : V := .agg [.int .u32 d.fip, .int .u16 d.fport, .int .u32 d.tip, .int .u16 d.tport]
def pair0 : V := .agg [.int .u32 0, .int .u16 0, .int .u32 0, .int .u16 0]

theorem connect_spec {fd own tip tport draw : Int} (hw : h.wf) (r : TblR t s h F) (hl : s.own.length ≤ 1000) (hd : 0 ≤ draw ∧ draw < 65536) :
    XCalls Try.prog 18 [.ptr (some (t, 0)), .int .i64 fd, .int .u32 own, .agg [.int .u32 tip, .int .u16 tport], .int .u16 draw] h fun v h' => Upd h h' F F ∧ h'.wf ∧
      if connA s fd own tip tport = 0 then ∃ f x, mget s.A fd = some f ∧ sfind s.S f.id = some x ∧
        (if x.d.st = 0 then ∃ code port P', LendR s.P f.id ⟨x.d.proto, own, 0, false⟩ draw code port P' ∧
          (if code = 0 then v = .tup [pairV (conn { x.d with b := ⟨x.d.proto, own, port, false⟩ } own tip tport), .int .i64 0] ∧ TblR t { s with S := supd s.S x.o (conn { x.d with b := ⟨x.d.proto, own, port, false⟩ } own tip tport), P := P' } h' F
           else v = .tup [pair0, .int .i64 code] ∧ TblR t { s with P := P' } h' F)
        else v = .tup [pairV (conn x.d own tip tport), .int .i64 0] ∧ TblR t { s with S := supd s.S x.o (conn x.d own tip tport) } h' F)
      else v = .tup [pair0, .int .i64 (connA s fd own tip tport)] ∧ TblR t s h' F := by
  have hFlt : ∀ j ∈ F, j < h.next := fun j hj => (TblR.rep t s).lt hw r hj
  refine XCalls.cps fun K hK => ?_
  apply x18; unfold X18
  rintro g1 rfl g2 rfl g3 rfl g4 rfl
  have q1 : Quiet h (h.alloc (.row [.ptr (some (t, 0))] 1 false)) := Ports.Quiet.alloc hw _
  have q2 := q1.trans (Ports.Quiet.alloc q1.wf (.row [.int .u32 own] 1 false))
  have q3 := q2.trans (Ports.Quiet.alloc q2.wf (.row [.int .u32 tip, .int .u16 tport] 1 false))
  have q4 := q3.trans (Ports.Quiet.alloc q3.wf (.row [.int .u32 0, .int .u16 0, .int .u32 0, .int .u16 0] 1 false))
  have e1 : (h.alloc (.row [.ptr (some (t, 0))] 1 false)).next = h.next + 1 := rfl
  have e2 : ((h.alloc (.row [.ptr (some (t, 0))] 1 false)).alloc (.row [.int .u32 own] 1 false)).next = h.next + 2 := rfl
  have e3 : (((h.alloc (.row [.ptr (some (t, 0))] 1 false)).alloc (.row [.int .u32 own] 1 false)).alloc (.row [.int .u32 tip, .int .u16 tport] 1 false)).next = h.next + 3 := rfl
  generalize hg4 : (((h.alloc (.row [.ptr (some (t, 0))] 1 false)).alloc (.row [.int .u32 own] 1 false)).alloc (.row [.int .u32 tip, .int .u16 tport] 1 false)).alloc (.row [.int .u32 0, .int .u16 0, .int .u32 0, .int .u16 0] 1 false) = g4 at q4
  have hn4 : g4.next = h.next + 4 := by rw [← hg4]; rfl
  have ct : g4.get h.next = some (.row [.ptr (some (t, 0))] 1 false) := by rw [← hg4, Hp.get_alloc_ne (by rw [e3]; omega), Hp.get_alloc_ne (by rw [e2]; omega), Hp.get_alloc_ne (by rw [e1]; omega)]; exact Hp.get_alloc_self
  have co : g4.get (h.next + 1) = some (.row [.int .u32 own] 1 false) := by rw [← hg4, Hp.get_alloc_ne (by rw [e3]; omega), Hp.get_alloc_ne (by rw [e2]; omega), ← e1]; exact Hp.get_alloc_self
  have cto : g4.get (h.next + 2) = some (.row [.int .u32 tip, .int .u16 tport] 1 false) := by rw [← hg4, Hp.get_alloc_ne (by rw [e3]; omega), ← e2]; exact Hp.get_alloc_self
  have cp : g4.get (h.next + 3) = some (.row [.int .u32 0, .int .u16 0, .int .u32 0, .int .u16 0] 1 false) := by rw [← hg4, ← e3]; exact Hp.get_alloc_self
  clear hg4
  simp only [e1, e2, e3] at *
  refine ⟨some (t, 0), by rw [Hp.ld_of ct]; rfl, ?_⟩
  rintro g5 rfl
  have q5 := q4.trans (Ports.Quiet.alloc q4.wf (.row [.fn (.func 47) [] [.ptr (some (h.next, 0)), .ptr (some (h.next + 1, 0)), .ptr (some (h.next + 2, 0))], .fn (.func 48) [] [], .fn (.func 49) [] []] 1 false))
  generalize hg5 : g4.alloc (.row [.fn (.func 47) [] [.ptr (some (h.next, 0)), .ptr (some (h.next + 1, 0)), .ptr (some (h.next + 2, 0))], .fn (.func 48) [] [], .fn (.func 49) [] []] 1 false) = g5 at q5
  have hs5 : ∀ j, j < g4.next → g5.get j = g4.get j := fun j hj => by rw [← hg5]; exact Hp.get_alloc_ne (by omega)
  have hq5 : ClsAt g5 g4.next [cl47 s h.next (h.next + 1) (h.next + 2) own tip tport, cl48, cl49] := by unfold ClsAt; rw [← hg5]; exact Hp.get_alloc_self
  have hn5 : g5.next = h.next + 5 := by rw [← hg5, Hp.alloc_next]; omega
  clear hg5
  have ct5 := (hs5 _ (by omega)).trans ct
  have co5 := (hs5 _ (by omega)).trans co
  have cto5 := (hs5 _ (by omega)).trans cto
  have cp5 := (hs5 _ (by omega)).trans cp
  have r5 := (TblR.rep t s).stay hw r q5.same
  refine (asks_spec (l := [cl47 s h.next (h.next + 1) (h.next + 2) own tip tport, cl48, cl49]) q5.wf r5 hq5 (fun c hc => ?_) (by simp)).mono ?_
  · simp only [List.mem_cons, List.not_mem_nil, or_false] at hc
    rcases hc with rfl | rfl | rfl
    · exact ans47 q5.wf r5 hl ct5 co5 cto5
    · exact ans48 q5.wf r5
    · exact ans49 q5.wf r5
  rintro v g6 ⟨q6, hv⟩
  rw [askC_conn] at hv
  have qq := q5.trans q6
  have r6 := (TblR.rep t s).stay hw r qq.same
  have l6 := q6.le
  have ct6 := (q6.same _ (by omega)).trans ct5
  have co6 := (q6.same _ (by omega)).trans co5
  have cto6 := (q6.same _ (by omega)).trans cto5
  have cp6 := (q6.same _ (by omega)).trans cp5
  by_cases c : connA s fd own tip tport = 0
  · rw [if_pos c] at hv
    obtain ⟨f1, x, hm, hsf, rfl, hk, _⟩ := hv
    refine ⟨_, _, _, rfl, ?_⟩
    simp only [bne_self_eq_false, cond_false, onS]
    obtain ⟨mf, ms, po, G, GP, a, f, at6, hFe⟩ := r6
    have hxm := (sfind_mem hsf).1
    have hxF : x.o ∈ F := by rw [hFe]; simp; exact .inr (.inr (.inr (.inl ⟨x, hxm, rfl⟩)))
    have hxl := hFlt _ hxF
    have hdx := at6.desks x hxm
    -- what holds between the parts
    refine ⟨fun vs g => ∃ (S1 : List Sk) (d1 : Dk) (P1 : List (Int × Bd)), (⟨x.id, x.o, d1⟩ : Sk) ∈ S1 ∧ (∀ d, supd S1 x.o d = supd s.S x.o d) ∧ At t { s with S := S1, P := P1 } g mf ms po G GP a f ∧ S1.map Sk.o = s.S.map Sk.o ∧
        g.get (h.next + 1) = some (.row [.int .u32 own] 1 false) ∧ g.get (h.next + 2) = some (.row [.int .u32 tip, .int .u16 tport] 1 false) ∧ g.get (h.next + 3) = some (.row [.int .u32 0, .int .u16 0, .int .u32 0, .int .u16 0] 1 false) ∧
        (∀ j, j < h.next → j ∉ F → g.get j = h.get j) ∧ h.next + 5 ≤ g.next ∧ g.wf ∧
        ((x.d.st = 0 ∧ ∃ port, LendR s.P f1.id ⟨x.d.proto, own, 0, false⟩ draw 0 port P1 ∧ d1 = { x.d with b := ⟨x.d.proto, own, port, false⟩ }) ∨ (x.d.st ≠ 0 ∧ d1 = x.d ∧ P1 = s.P)), ?_, ?_⟩
    · refine ⟨x.d.st, by rw [Hp.ld_of hdx]; rfl, ?_⟩
      by_cases h0 : x.d.st = 0
      · have b : (x.d.st == 0) = true := by simp [h0]
        simp only [b, cond_true]
        refine ⟨some (t, 0), by rw [Hp.ld_of ct6]; rfl, ?_⟩
        simp only [onS]
        refine ⟨some (po, 0), by rw [Hp.ld_of at6.row]; rfl, x.d.proto, by rw [Hp.ld_of hdx]; rfl, own, by rw [Hp.ld_of co6]; rfl, ?_⟩
        refine (Ports.lend_spec (s := f1.id) (draw := draw) (b := ⟨x.d.proto, own, 0, false⟩) qq.wf at6.ports hd).mono ?_
        rintro _ g7 ⟨code, port, P', rfl, hL, p7, u7, wf7⟩
        have at7 := at6.setPorts qq.wf p7 u7
        have hPn : ∀ j, h.next ≤ j → j ∉ GP := fun j hj hm => by have := hFlt j (by rw [hFe]; simp [hm]); omega
        have l7 := u7.le
        have co7 := (u7.same _ (by omega) (hPn _ (by omega))).trans co6
        have cto7 := (u7.same _ (by omega) (hPn _ (by omega))).trans cto6
        have cp7 := (u7.same _ (by omega) (hPn _ (by omega))).trans cp6
        have hlow : ∀ j, j < h.next → j ∉ F → g7.get j = h.get j := fun j hj hF => by
          rw [u7.same j (by omega) (fun hm => hF (by rw [hFe]; simp [hm]))]; exact qq.same j hj
        refine ⟨_, _, rfl, ?_⟩
        by_cases hc : code = 0
        · subst hc
          simp only [bne_self_eq_false, cond_false]
          have hd7 := at7.desks x hxm
          refine ⟨x.d.proto, by rw [Hp.ld_of hd7]; rfl, own, by rw [Hp.ld_of co7]; rfl, _, Hp.st_of hd7 (Nat.le_of_ble_eq_true rfl), (by trivial), ?_⟩
          have hne : ∀ j, h.next ≤ j → j ≠ x.o := fun j hj e => by omega
          refine ⟨supd s.S x.o { x.d with b := ⟨x.d.proto, own, port, false⟩ }, { x.d with b := ⟨x.d.proto, own, port, false⟩ }, P', supd_mem hxm _, fun d => supd_supd _ _ _ _, at7.setDesk hxm { x.d with b := ⟨x.d.proto, own, port, false⟩ }, supd_o _ _ _, ?_, ?_, ?_, fun j hj hF => ?_, by simp only [Hp.set_next]; omega, wf7.set (by omega), .inl ⟨h0, port, hL, rfl⟩⟩
          · rw [Hp.get_set_ne (hne _ (by omega))]; exact co7
          · rw [Hp.get_set_ne (hne _ (by omega))]; exact cto7
          · rw [Hp.get_set_ne (hne _ (by omega))]; exact cp7
          · rw [Hp.get_set_ne (fun e : j = x.o => hF (e ▸ hxF))]; exact hlow j hj hF
        · have b : (code != 0) = true := by simp [hc]
          simp only [b, cond_true]
          refine ⟨_, Hp.st_of cp7 (Nat.le_of_ble_eq_true rfl), 0, 0, 0, 0, by rw [Hp.lda_of Hp.get_set_self (Nat.le_of_ble_eq_true rfl)]; rfl, hK _ _ ⟨⟨fun j hj hF => ?_, fun j hj => .inl hj, by simp only [Hp.set_next]; omega⟩, wf7.set (by omega), ?_⟩⟩
          · rw [Hp.get_set_ne (by omega)]; exact hlow j hj hF
          · rw [if_pos c]
            refine ⟨f1, x, hm, hsf, ?_⟩
            rw [if_pos h0]
            refine ⟨code, port, P', hL, ?_⟩
            rw [if_neg hc]
            exact ⟨rfl, mf, ms, po, G, GP, a, f, at7.loc fun j hj => Hp.get_set_ne (by have := hFlt j (by rw [hFe]; exact hj); omega), hFe⟩
      · have b : (x.d.st == 0) = false := by simp [h0]
        simp only [b, cond_false]
        exact ⟨(by trivial), s.S, x.d, s.P, hxm, fun _ => rfl, at6, rfl, co6, cto6, cp6, fun j hj _ => qq.same j hj, by omega, qq.wf, .inr ⟨h0, rfl, rfl⟩⟩
    rintro bs g7 ⟨S1, d1, P1, hx1, hsup, at7, ho7, co7, cto7, cp7, hlow7, l7, wf7, hor⟩
    have hd7 := at7.desks _ hx1
    simp only at hd7
    refine ⟨d1.b.ip, by rw [Hp.ld_of hd7]; rfl, d1.b.port, by rw [Hp.ld_of hd7]; rfl, ?_⟩
    rintro g8 rfl
    have hst8 : ∀ j, j < g7.next → (g7.alloc (.row [.int .u32 0, .int .u16 0] 1 false)).get j = g7.get j := fun j hj => Hp.get_alloc_ne (by omega)
    have hd8 := (hst8 x.o (by omega)).trans hd7
    refine ⟨(by trivial), ⟨d1.b.port, by rw [Hp.ld_of hd8]; rfl, rfl⟩, (by trivial), (by trivial), (by trivial), (by trivial), (by trivial), ⟨d1.b.ip, by rw [Hp.ld_of hd8]; rfl, rfl⟩, (by trivial), (by trivial), (by trivial), (by trivial), (by trivial), ?_⟩
    refine ⟨_, Hp.st_of Hp.get_alloc_self (Nat.le_of_ble_eq_true rfl), ?_⟩
    generalize hg9 : (g7.alloc _).set g7.next _ = g9
    have cf9 : g9.get g7.next = some (.row [.int .u32 d1.b.ip, .int .u16 d1.b.port] 1 false) := by rw [← hg9]; exact Hp.get_set_self
    have hs9 : ∀ j, j < g7.next → g9.get j = g7.get j := fun j hj => by rw [← hg9, Hp.get_set_ne (by omega), Hp.get_alloc_ne (by omega)]
    have wf9 : g9.wf := by rw [← hg9]; exact wf7.alloc.set (by simp [Hp.alloc_next])
    have hn9 : g9.next = g7.next + 1 := by rw [← hg9]; rfl
    clear hg9
    have lt7 := at7.lt wf7
    -- the own address
    refine ⟨fun vs g => g.get g7.next = some (.row [.int .u32 (if d1.b.ip = 0 then own else d1.b.ip), .int .u16 d1.b.port] 1 false) ∧ (∀ j, j < g7.next → g.get j = g7.get j) ∧ g.wf ∧ g.next = g7.next + 1, ?_, ?_⟩
    · refine ⟨d1.b.ip, by rw [Hp.ld_of cf9]; rfl, ?_⟩
      by_cases h0 : d1.b.ip = 0
      · have b : (d1.b.ip == 0) = true := by simp [h0]
        simp only [b, cond_true]
        refine ⟨own, by rw [Hp.ld_of ((hs9 _ (by omega)).trans co7)]; rfl, _, Hp.st_of cf9 (Nat.le_of_ble_eq_true rfl), (by trivial), ?_, fun j hj => ?_, wf9.set (by omega), by simp only [Hp.set_next]; omega⟩
        · rw [if_pos h0]; exact Hp.get_set_self
        · rw [Hp.get_set_ne (by omega)]; exact hs9 j hj
      · have b : (d1.b.ip == 0) = false := by simp [h0]
        simp only [b, cond_false]
        exact ⟨(by trivial), by rw [if_neg h0]; exact cf9, hs9, wf9, hn9⟩
    rintro bs2 g10 ⟨cf10, hs10, wf10, hn10⟩
    have at10 := at7.loc fun j hj => hs10 j (lt7 j hj)
    have hd10 := at10.desks _ hx1
    simp only at hd10
    have co10 := (hs10 _ (by omega)).trans co7
    have cto10 := (hs10 _ (by omega)).trans cto7
    have cp10 := (hs10 _ (by omega)).trans cp7
    -- what it was
    refine ⟨fun vs g => g = g10.set x.o (.row (dkL { d1 with was := if d1.st = 3 then d1.was else d1.st }) 1 false) ∨ (d1.st = 3 ∧ g = g10), ?_, ?_⟩
    · refine ⟨d1.st, by rw [Hp.ld_of hd10]; rfl, ?_⟩
      by_cases h3 : d1.st = 3
      · have b : (d1.st != 3) = false := by simp [h3]
        simp only [b, cond_false]
        exact ⟨(by trivial), .inr ⟨h3, (by trivial)⟩⟩
      · have b : (d1.st != 3) = true := by simp [h3]
        simp only [b, cond_true]
        refine ⟨d1.st, by rw [Hp.ld_of hd10]; rfl, _, Hp.st_of hd10 (Nat.le_of_ble_eq_true rfl), (by trivial), .inl ?_⟩
        rw [if_neg h3]; rfl
    rintro bs3 g11 hg11
    obtain ⟨S2, hx2, hsup2, at11, ho11, cf11, co11, cto11, cp11, hlow11, wf11, hn11⟩ : ∃ S2 : List Sk, (⟨x.id, x.o, { d1 with was := if d1.st = 3 then d1.was else d1.st }⟩ : Sk) ∈ S2 ∧ (∀ d, supd S2 x.o d = supd s.S x.o d) ∧ At t { s with S := S2, P := P1 } g11 mf ms po G GP a f ∧ S2.map Sk.o = s.S.map Sk.o ∧
        g11.get g7.next = some (.row [.int .u32 (if d1.b.ip = 0 then own else d1.b.ip), .int .u16 d1.b.port] 1 false) ∧ g11.get (h.next + 1) = some (.row [.int .u32 own] 1 false) ∧ g11.get (h.next + 2) = some (.row [.int .u32 tip, .int .u16 tport] 1 false) ∧ g11.get (h.next + 3) = some (.row [.int .u32 0, .int .u16 0, .int .u32 0, .int .u16 0] 1 false) ∧
        (∀ j, j < h.next → j ∉ F → g11.get j = h.get j) ∧ g11.wf ∧ g11.next = g7.next + 1 := by
      rcases hg11 with rfl | ⟨h3, rfl⟩
      · refine ⟨_, supd_mem hx1 _, fun d => by rw [supd_supd, hsup], at10.setDesk hx1 _, by rw [supd_o, ho7], ?_, ?_, ?_, ?_, fun j hj hF => ?_, wf10.set (by omega), hn10⟩
        · rw [Hp.get_set_ne (by omega)]; exact cf10
        · rw [Hp.get_set_ne (by omega)]; exact co10
        · rw [Hp.get_set_ne (by omega)]; exact cto10
        · rw [Hp.get_set_ne (by omega)]; exact cp10
        · rw [Hp.get_set_ne (fun e : j = x.o => hF (e ▸ hxF)), hs10 j (by omega)]; exact hlow7 j hj hF
      · exact ⟨S1, by rw [if_pos h3]; exact hx1, hsup, at10, ho7, cf10, co10, cto10, cp10, fun j hj hF => by rw [hs10 j (by omega)]; exact hlow7 j hj hF, wf10, hn10⟩
    have hd11 := at11.desks _ hx2
    simp only at hd11
    refine ⟨_, _, by rw [Hp.lda_of cf11 (Nat.le_of_ble_eq_true rfl)]; rfl, tip, tport, by rw [Hp.lda_of cto11 (Nat.le_of_ble_eq_true rfl)]; rfl, _, Hp.st_of hd11 (Nat.le_of_ble_eq_true rfl), (by trivial), ?_⟩
    have at12 := at11.setDesk hx2 { d1 with was := if d1.st = 3 then d1.was else d1.st, st := 3 }
    have hx3 := supd_mem (x := ⟨x.id, x.o, { d1 with was := if d1.st = 3 then d1.was else d1.st }⟩) hx2 { d1 with was := if d1.st = 3 then d1.was else d1.st, st := 3 }
    have at13 := at12.setDesk hx3 (conn d1 own tip tport)
    have cto12 : (g11.set x.o (.row (dkL { d1 with was := if d1.st = 3 then d1.was else d1.st, st := 3 }) 1 false)).get (h.next + 2) = _ := (Hp.get_set_ne (by omega)).trans cto11
    have cf12 : (g11.set x.o (.row (dkL { d1 with was := if d1.st = 3 then d1.was else d1.st, st := 3 }) 1 false)).get g7.next = _ := (Hp.get_set_ne (by omega)).trans cf11
    refine ⟨⟨tip, tport, (Hp.lda_of cto12 (Nat.le_of_ble_eq_true rfl)).trans rfl, rfl⟩, ⟨_, _, (Hp.lda_of cf12 (Nat.le_of_ble_eq_true rfl)).trans rfl, rfl⟩, (by trivial), _, Hp.st_of Hp.get_set_self (Nat.le_of_ble_eq_true rfl), ?_⟩
    refine ⟨_, _, _, _, by rw [Hp.lda_of Hp.get_set_self (Nat.le_of_ble_eq_true rfl)]; rfl, ?_⟩
    have cp13 : ((g11.set x.o (.row (dkL { d1 with was := if d1.st = 3 then d1.was else d1.st, st := 3 }) 1 false)).set x.o (.row (dkL (conn d1 own tip tport)) 1 false)).get (h.next + 3) = _ := (Hp.get_set_ne (by omega)).trans ((Hp.get_set_ne (by omega)).trans cp11)
    refine ⟨_, (Hp.st_of cp13 (Nat.le_of_ble_eq_true rfl)).trans rfl, _, _, _, _, by rw [Hp.lda_of Hp.get_set_self (Nat.le_of_ble_eq_true rfl)]; rfl, hK _ _ ⟨⟨fun j hj hF => ?_, fun j hj => .inl hj, by simp only [Hp.set_next]; omega⟩, ((wf11.set (by omega)).set (by simp only [Hp.set_next]; omega)).set (by simp only [Hp.set_next]; omega), ?_⟩⟩
    · have hne : j ≠ x.o := fun e => hF (e ▸ hxF)
      rw [Hp.get_set_ne (by omega), Hp.get_set_ne hne, Hp.get_set_ne hne]; exact hlow11 j hj hF
    · rw [if_pos c]
      refine ⟨f1, x, hm, hsf, ?_⟩
      have hfin : TblR t { s with S := supd s.S x.o (conn d1 own tip tport), P := P1 } _ F := ⟨mf, ms, po, G, GP, a, f, by
        have := at13.loc (h' := ((g11.set x.o (.row (dkL { d1 with was := if d1.st = 3 then d1.was else d1.st, st := 3 }) 1 false)).set x.o (.row (dkL (conn d1 own tip tport)) 1 false)).set (h.next + 3) (.row [.int .u32 (if d1.b.ip = 0 then own else d1.b.ip), .int .u16 d1.b.port, .int .u32 tip, .int .u16 tport] 1 false)) fun j hj => Hp.get_set_ne fun e => by
          have hjF : j ∈ F := by
            rw [hFe]
            simp only [supd_o, ho11] at hj
            exact hj
          have := hFlt j hjF
          omega
        simp only [supd_supd, hsup2] at this
        exact this, by rw [hFe]; show _ = t :: mf :: ms :: ((supd s.S x.o _).map Sk.o ++ (G ++ GP)); rw [supd_o]⟩
      rcases hor with ⟨h0, port, hL, rfl⟩ | ⟨h0, rfl, rfl⟩
      · rw [if_pos h0]
        refine ⟨0, port, P1, hL, ?_⟩
        rw [if_pos rfl]
        exact ⟨rfl, hfin⟩
      · rw [if_neg h0]
        exact ⟨rfl, hfin⟩
  · rw [if_neg c] at hv
    subst hv
    refine ⟨_, _, _, rfl, ?_⟩
    have b : (connA s fd own tip tport != 0) = true := by simp [c]
    simp only [b, cond_true]
    refine ⟨_, Hp.st_of cp6 (Nat.le_of_ble_eq_true rfl), 0, 0, 0, 0, by rw [Hp.lda_of Hp.get_set_self (Nat.le_of_ble_eq_true rfl)]; rfl, hK _ _ ⟨⟨fun j hj hF => ?_, fun j hj => .inl hj, by simp only [Hp.set_next]; omega⟩, qq.wf.set (by omega), ?_⟩⟩
    · rw [Hp.get_set_ne (by omega)]; exact qq.same j hj
    · rw [if_neg c]
      exact ⟨rfl, (TblR.rep t s).loc _ _ _ (fun j hj => Hp.get_set_ne (by have := hFlt j hj; omega)) r6⟩
end
end Go.Vex.Call
