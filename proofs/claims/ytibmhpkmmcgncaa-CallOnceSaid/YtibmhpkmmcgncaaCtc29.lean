/-
  Contracts of call.Table, third part: Listen, Bind, Share, Accept, File, Desk.
-/
import Derived.Test.YtibmhpkmmcgncaaVexGG
import Derived.Test.YtibmhpkmmcgncaaTab29
import Derived.Test.YtibmhpkmmcgncaaXp29
import Derived.Test.YtibmhpkmmcgncaaCpa29
import Derived.Test.YtibmhpkmmcgncaaCpb29
import Derived.Test.YtibmhpkmmcgncaaCpc29
import Derived.Test.YtibmhpkmmcgncaaCpd29
import Derived.Test.YtibmhpkmmcgncaaXta29
import Derived.Test.YtibmhpkmmcgncaaCta29
import Derived.Test.YtibmhpkmmcgncaaXtb29
import Derived.Test.YtibmhpkmmcgncaaCtb29
set_option linter.unusedVariables false
set_option linter.unusedSimpArgs false
namespace Go.Vex.Call
open Go.Proofs
open Go.Vex.Ports (PortsR Bd bV bL b0 bindCode Quiet)

section
variable {t : Nat} {s : TS} {h h' : Hp} {mf ms po : Nat} {G GP : List Nat} {a : Option (Nat × Nat)} {f : Bool}

theorem At.setPorts (r : At t s h mf ms po G GP a f) (hw : h.wf) {P' : List (Int × Bd)} (hp : PortsR po P' h' GP) (u : Upd h h' GP GP) : At t { s with P := P' } h' mf ms po G GP a f := by
  have ap := apart r.nd
  have lt0 := r.lt hw
  have hs : ∀ j ∈ t :: mf :: ms :: (s.S.map Sk.o ++ (G ++ GP)), j ∉ GP → h'.get j = h.get j := fun j hj hn => u.same j (lt0 j hj) hn
  refine ⟨by rw [hs t (by simp) ap.tP]; exact r.row, (Own.rep _ _ _ _).loc _ _ _ (fun j hj => hs j (by simp [hj]) (ap.GP j hj)) r.own, ?_, ?_, fun x hx => ?_, hp, r.nd⟩
  · obtain ⟨o, h1, h2⟩ := r.files; exact ⟨o, by rw [hs mf (by simp) ap.fP]; exact h1, h2⟩
  · obtain ⟨o, h1, h2⟩ := r.socks; exact ⟨o, by rw [hs ms (by simp) ap.sP]; exact h1, h2⟩
  · have hm : x.o ∈ s.S.map Sk.o := List.mem_map_of_mem hx
    rw [hs x.o (by simp; exact .inr (.inr (.inr (.inl ⟨x, hx, rfl⟩)))) (ap.OP _ hm)]; exact r.desks x hx
end

def cl44 : Cl := ⟨44, [], fun d => if d.proto == 2 then 0 else 2⟩
def cl45 : Cl := ⟨45, [], fun d => if d.st != 3 then 0 else 292⟩
def cl46 : Cl := ⟨46, [], fun d => if d.st != 0 then 0 else 294⟩
def cl36 : Cl := ⟨36, [], fun d => if d.st == 2 then 0 else 3⟩
def cl41 : Cl := ⟨41, [], fun d => if d.st == 0 then 0 else 3⟩

section
variable {h : Hp} {t : Nat} {s : TS} {F : List Nat}

theorem listen_spec {fd : Int} (hw : h.wf) (r : TblR t s h F) : XCalls Try.prog 14 [.ptr (some (t, 0)), .int .i64 fd] h fun v h' => v = .int .i64 (askC s fd [cl44, cl45, cl46]) ∧ Upd h h' F F ∧ h'.wf ∧
    if askC s fd [cl44, cl45, cl46] = 0 then ∃ f x, mget s.A fd = some f ∧ sfind s.S f.id = some x ∧ TblR t { s with S := supd s.S x.o { x.d with st := 2 } } h' F else TblR t s h' F := by
  refine XCalls.cps fun K hK => ?_
  apply x14; unfold X14
  rintro g1 rfl
  have q1 : Quiet h (h.alloc (.row [.fn (.func 44) [] [], .fn (.func 45) [] [], .fn (.func 46) [] []] 1 false)) := Quiet.alloc hw _
  have r1 := (TblR.rep t s).stay hw r q1.same
  refine (asks_spec (l := [cl44, cl45, cl46]) q1.wf r1 Hp.get_alloc_self (fun c hc => ?_) (by decide)).mono ?_
  · simp only [List.mem_cons, List.not_mem_nil, or_false] at hc
    rcases hc with rfl | rfl | rfl
    · exact ans44 q1.wf r1
    · exact ans45 q1.wf r1
    · exact ans46 q1.wf r1
  rintro v g2 ⟨q2, hv⟩
  have qq := q1.trans q2
  have r2 := (TblR.rep t s).stay hw r qq.same
  by_cases c : askC s fd [cl44, cl45, cl46] = 0
  · rw [if_pos c] at hv
    obtain ⟨f1, x, hm, hsf, rfl, hk, _⟩ := hv
    refine ⟨_, _, _, rfl, ?_⟩
    simp only [beq_self_eq_true, cond_true, onS]
    obtain ⟨mf, ms, po, G, GP, a, f, at2, rfl⟩ := r2
    have hxm := (sfind_mem hsf).1
    have hd := at2.desks x hxm
    refine ⟨_, Hp.st_of hd (Nat.le_of_ble_eq_true rfl), hK _ _ ⟨by rw [c], ⟨fun j hj hF => ?_, fun j hj => .inl hj, by simp only [Hp.set_next]; exact qq.le⟩, qq.wf.set (qq.wf.lt hd), ?_⟩⟩
    · rw [Hp.get_set_ne (fun e : j = x.o => hF (by rw [e]; simp; exact .inr (.inr (.inr (.inl ⟨x, hxm, rfl⟩))))), qq.same j hj]
    · rw [if_pos c]
      exact ⟨f1, x, hm, hsf, mf, ms, po, G, GP, a, f, at2.setDesk hxm { x.d with st := 2 }, by rw [supd_o]⟩
  · rw [if_neg c] at hv
    subst hv
    refine ⟨_, _, _, rfl, ?_⟩
    have b : (askC s fd [cl44, cl45, cl46] == 0) = false := by simp [c]
    rw [b]
    exact hK _ _ ⟨rfl, qq.upd _, qq.wf, by rw [if_neg c]; exact r2⟩

theorem share_spec {fd : Int} {is : Bool} (hw : h.wf) (r : TblR t s h F) : XCalls Try.prog 24 [.ptr (some (t, 0)), .int .i64 fd, .bool is] h fun v h' => v = .int .i64 (askC s fd [cl41]) ∧ Upd h h' F F ∧ h'.wf ∧
    if askC s fd [cl41] = 0 then ∃ f x, mget s.A fd = some f ∧ sfind s.S f.id = some x ∧ TblR t { s with S := supd s.S x.o { x.d with share := is } } h' F else TblR t s h' F := by
  refine XCalls.cps fun K hK => ?_
  apply x24; unfold X24
  rintro g1 rfl
  have q1 : Quiet h (h.alloc (.row [.fn (.func 41) [] []] 1 false)) := Quiet.alloc hw _
  have r1 := (TblR.rep t s).stay hw r q1.same
  refine (asks_spec (l := [cl41]) q1.wf r1 Hp.get_alloc_self (fun c hc => ?_) (by decide)).mono ?_
  · simp only [List.mem_cons, List.not_mem_nil, or_false] at hc
    subst hc
    exact ans41 q1.wf r1
  rintro v g2 ⟨q2, hv⟩
  have qq := q1.trans q2
  have r2 := (TblR.rep t s).stay hw r qq.same
  by_cases c : askC s fd [cl41] = 0
  · rw [if_pos c] at hv
    obtain ⟨f1, x, hm, hsf, rfl, hk, _⟩ := hv
    refine ⟨_, _, _, rfl, ?_⟩
    simp only [beq_self_eq_true, cond_true, onS]
    obtain ⟨mf, ms, po, G, GP, a, f, at2, rfl⟩ := r2
    have hxm := (sfind_mem hsf).1
    have hd := at2.desks x hxm
    refine ⟨_, Hp.st_of hd (Nat.le_of_ble_eq_true rfl), hK _ _ ⟨by rw [c], ⟨fun j hj hF => ?_, fun j hj => .inl hj, by simp only [Hp.set_next]; exact qq.le⟩, qq.wf.set (qq.wf.lt hd), ?_⟩⟩
    · rw [Hp.get_set_ne (fun e : j = x.o => hF (by rw [e]; simp; exact .inr (.inr (.inr (.inl ⟨x, hxm, rfl⟩))))), qq.same j hj]
    · rw [if_pos c]
      exact ⟨f1, x, hm, hsf, mf, ms, po, G, GP, a, f, at2.setDesk hxm { x.d with share := is }, by rw [supd_o]⟩
  · rw [if_neg c] at hv
    subst hv
    refine ⟨_, _, _, rfl, ?_⟩
    have b : (askC s fd [cl41] == 0) = false := by simp [c]
    rw [b]
    exact hK _ _ ⟨rfl, qq.upd _, qq.wf, by rw [if_neg c]; exact r2⟩

def cl42 (s : TS) (c1 c2 : Nat) (ip port : Int) : Cl := ⟨42, [.ptr (some (c1, 0)), .ptr (some (c2, 0))], fun _ => if (ip = 0 ∨ ip ∈ s.own) ∧ 0 < port then 0 else 2⟩

def bindA (s : TS) (fd ip port : Int) : Int := askC s fd [cl41, cl42 s 0 0 ip port]

theorem askC_42 (s : TS) (fd ip port : Int) (c1 c2 : Nat) : askC s fd [cl41, cl42 s c1 c2 ip port] = bindA s fd ip port := rfl

/-- what Bind gives a desk -/
def bound (d : Dk) (ip port : Int) : Bd := ⟨d.proto, ip, port, d.share⟩

theorem bindt_spec {fd ip port : Int} (hw : h.wf) (r : TblR t s h F) (hl : s.own.length ≤ 1000) : XCalls Try.prog 13 [.ptr (some (t, 0)), .int .i64 fd, .agg [.int .u32 ip, .int .u16 port]] h fun v h' => Upd h h' F F ∧ h'.wf ∧
    if bindA s fd ip port = 0 then ∃ f x, mget s.A fd = some f ∧ sfind s.S f.id = some x ∧ v = .int .i64 (bindCode s.P f.id (bound x.d ip port)) ∧
      (if bindCode s.P f.id (bound x.d ip port) = 0 then TblR t { s with S := supd s.S x.o { x.d with st := 1, b := bound x.d ip port }, P := s.P ++ [(f.id, bound x.d ip port)] } h' F else TblR t s h' F)
    else v = .int .i64 (bindA s fd ip port) ∧ TblR t s h' F := by
  refine XCalls.cps fun K hK => ?_
  apply x13; unfold X13
  rintro g1 rfl g2 rfl
  have q1 : Quiet h (h.alloc (.row [.ptr (some (t, 0))] 1 false)) := Quiet.alloc hw _
  have q2 := q1.trans (Quiet.alloc q1.wf (.row [.int .u32 ip, .int .u16 port] 1 false))
  have e1 : (h.alloc (.row [.ptr (some (t, 0))] 1 false)).next = h.next + 1 := rfl
  have c2 : ((h.alloc (.row [.ptr (some (t, 0))] 1 false)).alloc (.row [.int .u32 ip, .int .u16 port] 1 false)).get h.next = some (.row [.ptr (some (t, 0))] 1 false) := by rw [Hp.get_alloc_ne (by rw [e1]; omega)]; exact Hp.get_alloc_self
  refine ⟨some (t, 0), by rw [Hp.ld_of c2]; rfl, ?_⟩
  rintro g3 rfl
  have q3 := q2.trans (Quiet.alloc q2.wf (.row [.fn (.func 41) [] [], .fn (.func 42) [] [.ptr (some (h.next + 1, 0)), .ptr (some (h.next, 0))]] 1 false))
  generalize hg2 : (h.alloc (.row [.ptr (some (t, 0))] 1 false)).alloc (.row [.int .u32 ip, .int .u16 port] 1 false) = g2 at q2 c2 q3
  have hn2 : g2.next = h.next + 2 := by rw [← hg2]; rfl
  have c1 : g2.get (h.next + 1) = some (.row [.int .u32 ip, .int .u16 port] 1 false) := by rw [← hg2, ← e1]; exact Hp.get_alloc_self
  simp only [e1] at *
  generalize hg3 : g2.alloc (.row [.fn (.func 41) [] [], .fn (.func 42) [] [.ptr (some (h.next + 1, 0)), .ptr (some (h.next, 0))]] 1 false) = g3 at q3
  have hs3 : ∀ j, j < g2.next → g3.get j = g2.get j := fun j hj => by rw [← hg3]; exact Hp.get_alloc_ne (by omega)
  have hq3 : ClsAt g3 g2.next [cl41, cl42 s (h.next + 1) h.next ip port] := by unfold ClsAt; rw [← hg3]; exact Hp.get_alloc_self
  have hn3 : g3.next = h.next + 3 := by rw [← hg3, Hp.alloc_next]; omega
  clear hg3
  have c1' : g3.get (h.next + 1) = some (.row [.int .u32 ip, .int .u16 port] 1 false) := by rw [hs3 _ (by omega)]; exact c1
  have c2' : g3.get h.next = some (.row [.ptr (some (t, 0))] 1 false) := by rw [hs3 _ (by omega)]; exact c2
  have r3 := (TblR.rep t s).stay hw r q3.same
  refine (asks_spec (l := [cl41, cl42 s (h.next + 1) h.next ip port]) q3.wf r3 hq3 (fun c hc => ?_) (by simp)).mono ?_
  · simp only [List.mem_cons, List.not_mem_nil, or_false] at hc
    rcases hc with rfl | rfl
    · exact ans41 q3.wf r3
    · exact ans42 q3.wf r3 hl c1' c2'
  rintro v g4 ⟨q4, hv⟩
  rw [askC_42] at hv
  have qq := q3.trans q4
  have r4 := (TblR.rep t s).stay hw r qq.same
  by_cases c : bindA s fd ip port = 0
  · rw [if_pos c] at hv
    obtain ⟨f1, x, hm, hsf, rfl, hk, _⟩ := hv
    refine ⟨_, _, _, rfl, ?_⟩
    simp only [bne_self_eq_false, cond_false, onS]
    obtain ⟨mf, ms, po, G, GP, a, f, at4, hFe⟩ := r4
    have lt4 := at4.lt qq.wf
    have hxm := (sfind_mem hsf).1
    have hd := at4.desks x hxm
    have c1'' : g4.get (h.next + 1) = some (.row [.int .u32 ip, .int .u16 port] 1 false) := by rw [q4.same _ (by omega)]; exact c1'
    have c2'' : g4.get h.next = some (.row [.ptr (some (t, 0))] 1 false) := by rw [q4.same _ (by omega)]; exact c2'
    refine ⟨x.d.proto, by rw [Hp.ld_of hd]; rfl, ip, by rw [Hp.ld_of c1'']; rfl, port, by rw [Hp.ld_of c1'']; rfl, x.d.share, by rw [Hp.ld_of hd]; rfl, ?_⟩
    rintro g5 rfl
    have hs5 : ∀ j, j < g4.next → (g4.alloc (.row [.int .u8 0, .int .u32 0, .int .u16 0, .bool false] 1 false)).get j = g4.get j := fun j hj => Hp.get_alloc_ne (by omega)
    have hd5 := (hs5 _ (qq.wf.lt hd)).trans hd
    have c15 := (hs5 _ (qq.wf.lt c1'')).trans c1''
    refine ⟨(by trivial), ⟨x.d.share, by rw [Hp.ld_of hd5]; rfl, rfl⟩, (by trivial), (by trivial), (by trivial), ⟨port, by rw [Hp.ld_of c15]; rfl, rfl⟩, (by trivial), ⟨ip, by rw [Hp.ld_of c15]; rfl, rfl⟩, (by trivial), ⟨x.d.proto, by rw [Hp.ld_of hd5]; rfl, rfl⟩, (by trivial), (by trivial), (by trivial), (by trivial), ?_⟩
    refine ⟨_, Hp.st_of Hp.get_alloc_self (Nat.le_of_ble_eq_true rfl), ?_⟩
    generalize hg6 : (g4.alloc _).set g4.next _ = g6
    have hb6 : g6.get g4.next = some (.row (bL (bound x.d ip port)) 1 false) := by rw [← hg6]; exact Hp.get_set_self
    have hs6 : ∀ j, j < g4.next → g6.get j = g4.get j := fun j hj => by rw [← hg6, Hp.get_set_ne (by omega), Hp.get_alloc_ne (by omega)]
    have wf6 : g6.wf := by rw [← hg6]; exact qq.wf.alloc.set (by simp [Hp.alloc_next])
    have hn6 : g6.next = g4.next + 1 := by rw [← hg6]; rfl
    clear hg6
    have at6 := at4.loc fun j hj => hs6 j (lt4 j hj)
    have c26 := (hs6 _ (qq.wf.lt c2'')).trans c2''
    have ap := apart at6.nd
    refine ⟨some (t, 0), by rw [Hp.ld_of c26]; rfl, some (po, 0), by rw [Hp.ld_of at6.row]; rfl, x.d.proto, ip, port, x.d.share, by rw [Hp.lda_of hb6 (Nat.le_of_ble_eq_true rfl)]; rfl, ?_⟩
    refine (Ports.bind_spec (s := f1.id) (b := bound x.d ip port) wf6 at6.ports).mono ?_
    rintro _ g7 ⟨rfl, p7, u7, wf7⟩
    have at7 := at6.setPorts wf6 p7 u7
    have hnb : g4.next ∉ GP := fun hm => by have := (PortsR.rep _ _).lt qq.wf at4.ports hm; omega
    have hb7 : g7.get g4.next = some (.row (bL (bound x.d ip port)) 1 false) := by rw [u7.same _ (by omega) hnb]; exact hb6
    have hq47 := q4.le
    have hlow : ∀ j, j < h.next → j ∉ F → g7.get j = h.get j := fun j hj hF => by
      rw [u7.same j (by omega) (fun hm => hF (by rw [hFe]; simp [hm])), hs6 j (by omega)]; exact qq.same j hj
    have hle : h.next ≤ g7.next := by have := u7.le; omega
    refine ⟨_, rfl, ?_⟩
    by_cases cb : bindCode s.P f1.id (bound x.d ip port) = 0
    · have b : (bindCode s.P f1.id (bound x.d ip port) == 0) = true := by simp [cb]
      simp only [b, cond_true]
      rw [if_pos cb] at at7
      have hd7 := at7.desks x hxm
      refine ⟨x.d.proto, ip, port, x.d.share, by rw [Hp.lda_of hb7 (Nat.le_of_ble_eq_true rfl)]; rfl, _, Hp.st_of hd7 (Nat.le_of_ble_eq_true rfl), ⟨x.d.proto, ip, port, x.d.share, ?_, rfl⟩, (by trivial), ?_⟩
      · rw [Hp.lda_of (show (g7.set x.o _).get g4.next = _ from (Hp.get_set_ne (by have := lt4 x.o (by simp; exact .inr (.inr (.inr (.inl ⟨x, hxm, rfl⟩)))); omega)).trans hb7) (Nat.le_of_ble_eq_true rfl)]; rfl
      refine ⟨_, Hp.st_of Hp.get_set_self (Nat.le_of_ble_eq_true rfl), hK _ _ ⟨⟨fun j hj hF => ?_, fun j hj => .inl hj, by simp only [Hp.set_next]; exact hle⟩, ((wf7.set (wf7.lt hd7)).set (by simp only [Hp.set_next]; exact wf7.lt hd7)), ?_⟩⟩
      · have hne : j ≠ x.o := fun e => hF (by rw [hFe, e]; simp; exact .inr (.inr (.inr (.inl ⟨x, hxm, rfl⟩))))
        rw [Hp.get_set_ne hne, Hp.get_set_ne hne, hlow j hj hF]
      · rw [if_pos c]
        refine ⟨f1, x, hm, hsf, rfl, ?_⟩
        rw [if_pos cb]
        have a8 := at7.setDesk hxm { x.d with st := 1 }
        have hx8 : (⟨x.id, x.o, { x.d with st := 1 }⟩ : Sk) ∈ supd s.S x.o { x.d with st := 1 } := by
          unfold supd
          exact List.mem_map.2 ⟨x, hxm, by rw [if_pos rfl]⟩
        have a9 := a8.setDesk hx8 { x.d with st := 1, b := bound x.d ip port }
        have hss : supd (supd s.S x.o { x.d with st := 1 }) x.o { x.d with st := 1, b := bound x.d ip port } = supd s.S x.o { x.d with st := 1, b := bound x.d ip port } := by
          unfold supd
          rw [List.map_map]
          apply List.map_congr_left
          intro y _
          simp only [Function.comp]
          by_cases e : y.o = x.o
          · simp [e]
          · simp [e]
        refine ⟨mf, ms, po, G, GP, a, f, ?_, by rw [hFe]; show _ = t :: mf :: ms :: ((supd s.S x.o _).map Sk.o ++ (G ++ GP)); rw [supd_o]⟩
        have : At t { s with S := supd (supd s.S x.o { x.d with st := 1 }) x.o { x.d with st := 1, b := bound x.d ip port }, P := s.P ++ [(f1.id, bound x.d ip port)] } _ mf ms po G GP a f := a9
        rw [hss] at this
        exact this
    · have b : (bindCode s.P f1.id (bound x.d ip port) == 0) = false := by simp [cb]
      simp only [b, cond_false]
      rw [if_neg cb] at at7
      refine hK _ _ ⟨⟨hlow, fun j hj => .inl hj, hle⟩, wf7, ?_⟩
      rw [if_pos c]
      exact ⟨f1, x, hm, hsf, rfl, by rw [if_neg cb]; exact ⟨mf, ms, po, G, GP, a, f, at7, hFe⟩⟩
  · rw [if_neg c] at hv
    subst hv
    refine ⟨_, _, _, rfl, ?_⟩
    have b : (bindA s fd ip port != 0) = true := by simp [c]
    rw [b]
    exact hK _ _ ⟨qq.upd _, qq.wf, by rw [if_neg c]; exact ⟨rfl, r4⟩⟩

theorem file_spec {fd : Int} (hw : h.wf) (r : TblR t s h F) : XCalls Try.prog 15 [.ptr (some (t, 0)), .int .i64 fd] h fun v h' => v = .tup [fV ((mget s.A fd).getD f0), .bool (mget s.A fd).isSome] ∧ Quiet h h' := by
  obtain ⟨mf, ms, po, G, GP, a, f, at0, rfl⟩ := r
  have lt0 := at0.lt hw
  apply x15; unfold X15
  rintro g1 rfl
  have hs1 : ∀ j, j < h.next → (h.alloc (.row [.int .u8 0, .int .u8 0, .int .u64 0, .bool false] 1 false)).get j = h.get j := fun j hj => Hp.get_alloc_ne (by omega)
  have at1 := at0.loc fun j hj => hs1 j (lt0 j hj)
  obtain ⟨oF, hF, moF⟩ := at1.files
  have hlk := moF.look2 mtF fd _ mf hF
  rw [lookV_getD] at hlk
  refine ⟨some mf, by rw [Hp.ld_of at1.row]; rfl, _, _, _, _, _, hlk, ?_⟩
  generalize (mget s.A fd).getD f0 = ff
  have q1 : Quiet h (h.alloc (.row [.int .u8 0, .int .u8 0, .int .u64 0, .bool false] 1 false)) := Quiet.alloc hw _
  have hn1 : (h.alloc (.row [.int .u8 0, .int .u8 0, .int .u64 0, .bool false] 1 false)).next = h.next + 1 := rfl
  have hr1 : (h.alloc (.row [.int .u8 0, .int .u8 0, .int .u64 0, .bool false] 1 false)).get h.next = _ := Hp.get_alloc_self
  generalize h.alloc (.row [.int .u8 0, .int .u8 0, .int .u64 0, .bool false] 1 false) = g1 at q1 hn1 hr1
  rintro g2 rfl
  refine ⟨_, Hp.st_of Hp.get_alloc_self (Nat.le_of_ble_eq_true rfl), ff.kind, ff.proto, ff.id, ff.calm, by rw [Hp.lda_of Hp.get_set_self (Nat.le_of_ble_eq_true rfl)]; rfl, ?_⟩
  have hr2 : ((g1.alloc (.row [.int .u8 0, .int .u8 0, .int .u64 0, .bool false] 1 false)).set g1.next (.row (splice [.int .u8 0, .int .u8 0, .int .u64 0, .bool false] 0 [.int .u8 ff.kind, .int .u8 ff.proto, .int .u64 ff.id, .bool ff.calm]) 1 false)).get h.next = some (.row [.int .u8 0, .int .u8 0, .int .u64 0, .bool false] 1 false) := by
    rw [Hp.get_set_ne (by omega), Hp.get_alloc_ne (by omega)]; exact hr1
  refine ⟨_, Hp.st_of hr2 (Nat.le_of_ble_eq_true rfl), ff.kind, ff.proto, ff.id, ff.calm, by rw [Hp.lda_of Hp.get_set_self (Nat.le_of_ble_eq_true rfl)]; rfl, rfl, ?_⟩
  refine ⟨fun j hj => ?_, by simp only [Hp.set_next, Hp.alloc_next]; omega, ((q1.wf.alloc.set (by simp [Hp.alloc_next])).set (by simp only [Hp.set_next, Hp.alloc_next]; omega))⟩
  rw [Hp.get_set_ne (by omega), Hp.get_set_ne (by omega), Hp.get_alloc_ne (by omega)]; exact q1.same j hj

def dV (d : Dk) : V := .agg [.int .u8 d.proto, .int .u8 d.st, .int .u8 d.b.kind, .int .u32 d.b.ip, .int .u16 d.b.port, .bool d.b.share, .int .u32 d.fip, .int .u16 d.fport, .int .u32 d.tip, .int .u16 d.tport]

theorem desk_spec {id : Int} (hw : h.wf) (r : TblR t s h F) : XCalls Try.prog 16 [.ptr (some (t, 0)), .int .u64 id] h fun v h' => v = .tup [dV (((sfind s.S id).map Sk.d).getD (dk0 0)), .bool (sfind s.S id).isSome] ∧ Quiet h h' := by
  obtain ⟨mf, ms, po, G, GP, a, f, at0, rfl⟩ := r
  have lt0 := at0.lt hw
  apply x16; unfold X16
  rintro g1 rfl
  generalize hz : O.row [.int .u8 0, .int .u8 0, .int .u8 0, .int .u32 0, .int .u16 0, .bool false, .int .u32 0, .int .u16 0, .int .u32 0, .int .u16 0] 1 false = z
  have q1 : Quiet h (h.alloc z) := Quiet.alloc hw _
  have hr1 : (h.alloc z).get h.next = some z := Hp.get_alloc_self
  have hn1 : (h.alloc z).next = h.next + 1 := rfl
  have at1 := at0.loc fun j hj => q1.same j (lt0 j hj)
  generalize h.alloc z = g1 at q1 hr1 hn1 at1
  subst hz
  obtain ⟨oS, hS, moS⟩ := at1.socks
  have hlS := moS.look mtS id g1 ms hS
  rw [mget_sk] at hlS
  refine ⟨some ms, by rw [Hp.ld_of at1.row]; rfl, (sfind s.S id).map fun x => (x.o, 0), by rw [hlS]; cases sfind s.S id <;> rfl, ?_⟩
  cases hsf : sfind s.S id with
  | none =>
    simp only [Option.map_none, Option.isNone_none, cond_true]
    refine ⟨_, Hp.st_of hr1 (Nat.le_of_ble_eq_true rfl), 0, 0, 0, 0, 0, false, 0, 0, 0, 0, by rw [Hp.lda_of Hp.get_set_self (Nat.le_of_ble_eq_true rfl)]; rfl, rfl, fun j hj => ?_, by simp only [Hp.set_next]; omega, q1.wf.set (by omega)⟩
    rw [Hp.get_set_ne (by omega)]; exact q1.same j hj
  | some x =>
    rw [hsf] at hlS
    simp only [Option.map_some, Option.isNone_some, cond_false]
    have hd := at1.desks x (sfind_mem hsf).1
    refine ⟨some ms, by rw [Hp.ld_of at1.row]; rfl, _, hlS, x.d.proto, x.d.st, x.d.b.kind, x.d.b.ip, x.d.b.port, x.d.b.share, x.d.fip, x.d.fport, x.d.tip, x.d.tport, by rw [Hp.lda_of hd (Nat.le_of_ble_eq_true rfl)]; rfl, ?_⟩
    refine ⟨_, Hp.st_of hr1 (Nat.le_of_ble_eq_true rfl), x.d.proto, x.d.st, x.d.b.kind, x.d.b.ip, x.d.b.port, x.d.b.share, x.d.fip, x.d.fport, x.d.tip, x.d.tport, by rw [Hp.lda_of Hp.get_set_self (Nat.le_of_ble_eq_true rfl)]; rfl, rfl, fun j hj => ?_, by simp only [Hp.set_next]; omega, q1.wf.set (by omega)⟩
    rw [Hp.get_set_ne (by omega)]; exact q1.same j hj
end
end Go.Vex.Call
