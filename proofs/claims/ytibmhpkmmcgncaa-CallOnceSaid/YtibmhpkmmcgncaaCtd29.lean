/-
  Contracts of call.Table, fourth part: New, Accept, and a law's pair.
-/
import Derived.Test.YtibmhpkmmcgncaaVexGG
import Derived.Test.YtibmhpkmmcgncaaTab29
import Derived.Test.YtibmhpkmmcgncaaXp29
import Derived.Test.YtibmhpkmmcgncaaCpa29
import Derived.Test.YtibmhpkmmcgncaaCpb29
import Derived.Test.YtibmhpkmmcgncaaCpc29
import Derived.Test.YtibmhpkmmcgncaaCpd29
import Derived.Test.YtibmhpkmmcgncaaXta29
import Derived.Test.YtibmhpkmmcgncaaCta29
import Derived.Test.YtibmhpkmmcgncaaXtb29
import Derived.Test.YtibmhpkmmcgncaaCtb29
import Derived.Test.YtibmhpkmmcgncaaCtc29
set_option linter.unusedVariables false
set_option linter.unusedSimpArgs false
namespace Go.Vex.Call
open Go.Proofs
open Go.Vex.Ports (PortsR Bd bV bL b0 bindCode Quiet)

theorem t77 : ∃ ti, T 77 = some ti ∧ ti.d = .slc 22 := ⟨_, rfl, rfl⟩
theorem t22 : ∃ ei, T 22 = some ei ∧ ei.size = 1 ∧ ei.bytes = 4 ∧ zok ei = true := ⟨_, rfl, rfl, rfl, rfl⟩

theorem flat32 (xs : List Int) : (xs.map fun x => [V.int .u32 x]).flatten = xs.map fun x => V.int .u32 x := by
  induction xs with
  | nil => rfl
  | cons x xs ih => simp only [List.map_cons, List.flatten_cons, ih]; rfl

theorem newt_spec {h : Hp} {most : Int} {q : Nat} {xs : List Int} {fl : Bool} (hw : h.wf) (hb : 1 ≤ most ∧ most ≤ 64) (hx : xs.length ≤ 100) (hz : (0 : Int) ∉ xs) (hq : h.get q = some (.row (xs.map fun x => V.int .u32 x) 1 false)) :
    XCalls Try.prog 8 [.int .i64 most, .slc (some (q, 0)) xs.length fl] h fun v h' => ∃ t F, v = .tup [.ptr (some (t, 0)), .int .i64 0] ∧ TblR t ⟨most, xs, [], [], [], 0⟩ h' F ∧ Quiet h h' ∧ ∀ j ∈ F, h.next ≤ j := by
  refine XCalls.cps fun K hK => ?_
  have ho : Ow 1 (some (q, 0)) xs.length (xs.map fun x => [V.int .u32 x]) h [q] := ⟨by simp, by simp, rfl, [], [], rfl, by rw [flat32]; simpa using hq⟩
  apply x8; unfold X8
  have c1 : ltI most 1 = false := by rw [ltI_eq, decide_eq_false_iff_not]; omega
  have c2 : ltI 64 most = false := by rw [ltI_eq, decide_eq_false_iff_not]; omega
  rw [c1, c2]
  simp only [cond_false]
  have hrd : Rd32 (some (q, 0)) xs.length xs h := by
    refine ⟨rfl, fun k hk => ?_⟩
    refine ⟨q, 0, xs[k], rfl, List.getElem?_eq_getElem hk, ?_⟩
    rw [Hp.ld_of hq]; simp [List.getElem?_eq_getElem hk]
  refine (contains_spec hrd (by omega)).mono ?_
  rintro _ g ⟨rfl, rfl⟩
  refine ⟨_, rfl, ?_⟩
  simp only [hz, decide_false, cond_false]
  -- the clone
  have clone : XCalls Try.prog 32 [.slc (some (q, 0)) xs.length fl] g fun v h' => ∃ a f G, v = .slc a xs.length f ∧ Own 1 a xs.length (xs.map fun x => [V.int .u32 x]) h' G ∧ Quiet g h' ∧ ∀ j ∈ G, g.next ≤ j := by
    apply x32; unfold X32
    simp only [Option.isNone_some, cond_false]
    rintro g1 rfl
    obtain ⟨ti, ht, hd⟩ := t77
    obtain ⟨ei, he, hsz, hby, hzk⟩ := t22
    have q1 := Quiet.alloc hw (.row [] 1 false)
    have o0 : Own 1 (some (g.next, 0)) 0 [] (g.alloc (.row [] 1 false)) [g.next] := ⟨rfl, by simp, rfl, [], rfl, Hp.get_alloc_self⟩
    have ho1 := (Ow.rep _ _ _ _).stay hw ho q1.same
    obtain ⟨a', f', G', g2, hxa, o2, u2, w2⟩ := o0.apps (f := true) q1.wf ht hd ht (fun k e => by rw [hd] at e; cases e) he hsz (by omega) hzk (ho1.news fl) (by simp) (by rw [hby, List.length_map]; omega) (by rw [List.length_map]; omega)
    rw [Nat.zero_add, List.length_map] at hxa
    rw [Nat.zero_add, List.length_map, List.nil_append] at o2
    refine ⟨a', _, f', g2, hxa, a', f', G', rfl, o2, ⟨fun j hj => ?_, ?_, w2⟩, fun j hj => ?_⟩
    · rw [u2.same j (by simp [Hp.alloc_next]; omega) (by simp; omega)]; exact q1.same j hj
    · have := u2.le; rw [Hp.alloc_next] at this; omega
    · rcases u2.new j hj with h | h
      · simp at h; omega
      · rw [Hp.alloc_next] at h; omega
  refine clone.mono ?_
  rintro _ g2 ⟨a, f, G, rfl, o2, q2, hG⟩
  refine ⟨a, _, f, rfl, ?_⟩
  rintro g3 rfl g4 rfl
  have q3 := q2.trans (Quiet.alloc q2.wf (.map [] 0))
  have q4 := q3.trans (Quiet.alloc q3.wf (.map [] 0))
  have e3 : (g2.alloc (.map [] 0)).next = g2.next + 1 := rfl
  refine (Ports.new_spec q4.wf).mono ?_
  rintro _ g5 ⟨rfl, p5, q5⟩
  refine ⟨_, rfl, ?_⟩
  rintro g6 rfl
  have e4 : ((g2.alloc (.map [] 0)).alloc (.map [] 0)).next = g2.next + 2 := rfl
  rw [e4] at p5
  have q6 := (q4.trans q5).trans (Quiet.alloc q5.wf (.row [.int .i64 most, .slc a xs.length f, .map (some g2.next), .map (some (g2.alloc (.map [] 0)).next), .ptr (some (((g2.alloc (.map [] 0)).alloc (.map [] 0)).next + 1, 0)), .int .u64 0] 1 false))
  have hn5 : g2.next + 4 ≤ g5.next := by
    have := (PortsR.rep _ _).lt q5.wf p5 (j := g2.next + 2 + 1) (by simp)
    omega
  have s5 : ∀ j, j < g2.next → g5.get j = g2.get j := fun j hj => by rw [q5.same j (by rw [e4]; omega), Hp.get_alloc_ne (by rw [e3]; omega), Hp.get_alloc_ne (by omega)]
  have hG2 : ∀ j ∈ G, j < g2.next := fun j hj => (Own.rep _ _ _ _).lt q2.wf o2 hj
  have hst : ∀ j, j < g5.next → ∀ o, (g5.alloc o).get j = g5.get j := fun j hj o => Hp.get_alloc_ne (by omega)
  refine hK _ _ ⟨g5.next, g5.next :: g2.next :: (g2.next + 1) :: (([] : List Sk).map Sk.o ++ (G ++ [g2.next + 2 + 1, g2.next + 2])), rfl, ⟨g2.next, g2.next + 1, g2.next + 2 + 1, G, [g2.next + 2 + 1, g2.next + 2], a, f, ⟨?_, ?_, ?_, ?_, by simp, ?_, ?_⟩, rfl⟩, q6, fun j hj => ?_⟩
  · rw [e4, e3]; exact Hp.get_alloc_self
  · exact (Own.rep _ _ _ _).loc _ _ _ (fun j hj => by rw [hst j (by have := hG2 j hj; omega), s5 j (hG2 j hj)]) o2
  · refine ⟨_, ?_, MO.nil _ _⟩
    rw [hst _ (by omega), q5.same _ (by rw [e4]; omega), Hp.get_alloc_ne (by rw [e3]; omega)]; exact Hp.get_alloc_self
  · refine ⟨_, ?_, MO.nil _ _⟩
    rw [hst _ (by omega), q5.same _ (by rw [e4]; omega), ← e3]; exact Hp.get_alloc_self
  · exact (PortsR.rep _ _).loc _ _ _ (fun j hj => hst j ((PortsR.rep _ _).lt q5.wf p5 hj) _) p5
  · have hGn : G.Nodup := by
      obtain ⟨_, _, o3⟩ := o2
      cases a with
      | none => rw [o3.2]; simp
      | some p => rw [o3.1]; simp
    have hG' : ∀ k, g2.next ≤ k → k ∉ G := fun k hk hm => by have := hG2 k hm; omega
    simp only [List.map_nil, List.nil_append, List.nodup_cons, List.mem_cons, List.mem_append, not_or, List.nodup_append, List.not_mem_nil, not_false_eq_true, List.nodup_nil, and_true, or_false]
    refine ⟨⟨by omega, by omega, hG' _ (by omega), by omega, by omega⟩, ⟨by omega, hG' _ (by omega), by omega, by omega⟩, ⟨hG' _ (by omega), by omega, by omega⟩, hGn, by omega, ?_⟩
    rintro b hb c (rfl | rfl)
    · have := hG2 b hb; omega
    · have := hG2 b hb; omega
  · have := q2.le
    simp only [List.map_nil, List.nil_append, List.mem_cons, List.mem_append, List.not_mem_nil, or_false] at hj
    rcases hj with rfl | rfl | rfl | hj | rfl | rfl
    · omega
    · omega
    · omega
    · exact hG j hj
    · omega
    · omega

theorem pair_spec {h : Hp} {ip port : Int} (hw : h.wf) : XCalls Try.prog 11 [.agg [.int .u32 ip, .int .u16 port]] h fun v h' => v = .agg [.int .u32 7, .int .u16 80, .int .u32 ip, .int .u16 port] ∧ Quiet h h' := by
  apply x11; unfold X11
  rintro g1 rfl g2 rfl
  have e1 : (h.alloc (.row [.int .u32 ip, .int .u16 port] 1 false)).next = h.next + 1 := rfl
  have hr : ((h.alloc (.row [.int .u32 ip, .int .u16 port] 1 false)).alloc (.row [.int .u32 0, .int .u16 0, .int .u32 0, .int .u16 0] 1 false)).get h.next = some (.row [.int .u32 ip, .int .u16 port] 1 false) := by rw [Hp.get_alloc_ne (by rw [e1]; omega)]; exact Hp.get_alloc_self
  refine ⟨ip, port, by rw [Hp.lda_of hr (Nat.le_of_ble_eq_true rfl)]; rfl, _, Hp.st_of Hp.get_alloc_self (Nat.le_of_ble_eq_true rfl), 7, 80, ip, port, by rw [Hp.lda_of Hp.get_set_self (Nat.le_of_ble_eq_true rfl)]; rfl, rfl, fun j hj => ?_, by simp only [Hp.set_next, Hp.alloc_next]; omega, hw.alloc.alloc.set (by simp [Hp.alloc_next])⟩
  rw [Hp.get_set_ne (by rw [e1]; omega), Hp.get_alloc_ne (by rw [e1]; omega), Hp.get_alloc_ne (by omega)]

section
variable {h : Hp} {t : Nat} {s : TS} {F : List Nat}

def cl38 (s : TS) (c1 c2 : Nat) (id : Int) : Cl := ⟨38, [.ptr (some (c1, 0)), .ptr (some (c2, 0))], fun _ => if 0 < id ∧ sfind s.S id = none then 0 else 2⟩
def cl39 (s : TS) (c2 : Nat) : Cl := ⟨39, [.ptr (some (c2, 0))], fun _ => if (s.A.length : Int) < s.most then 0 else 291⟩
def accA (s : TS) (fd id : Int) : Int := askC s fd [cl36, cl38 s 0 0 id, cl39 s 0]
theorem askC_acc (s : TS) (fd id : Int) (c1 c2 : Nat) : askC s fd [cl36, cl38 s c1 c2 id, cl39 s c2] = accA s fd id := rfl

def kid (fip fport tip tport : Int) : Dk := ⟨2, 3, ⟨0, 0, 0, false⟩, fip, fport, tip, tport, false, 0⟩

theorem accept_spec {fd id fip fport tip tport : Int} (hw : h.wf) (r : TblR t s h F) (hA : s.A.length ≤ 1000) :
    XCalls Try.prog 10 [.ptr (some (t, 0)), .int .i64 fd, .agg [.int .u32 fip, .int .u16 fport, .int .u32 tip, .int .u16 tport], .int .u64 id] h fun v h' => h'.wf ∧ ∃ F', Upd h h' F F' ∧
      if accA s fd id = 0 then ∃ (k o : Nat), v = .tup [.int .i64 k, .int .i64 0] ∧ Least s.A k ∧ TblR t { s with A := s.A ++ [((k : Int), ⟨1, 2, id, false⟩)], S := s.S ++ [⟨id, o, kid fip fport tip tport⟩], last := if s.last < id then id else s.last } h' F'
      else v = .tup [.int .i64 0, .int .i64 (accA s fd id)] ∧ TblR t s h' F' := by
  refine XCalls.cps fun K hK => ?_
  apply x10; unfold X10
  rintro g1 rfl g2 rfl g3 rfl
  have q1 : Quiet h (h.alloc (.row [.ptr (some (t, 0))] 1 false)) := Quiet.alloc hw _
  have q2 := q1.trans (Quiet.alloc q1.wf (.row [.int .u32 fip, .int .u16 fport, .int .u32 tip, .int .u16 tport] 1 false))
  have q3 := q2.trans (Quiet.alloc q2.wf (.row [.int .u64 id] 1 false))
  have e1 : (h.alloc (.row [.ptr (some (t, 0))] 1 false)).next = h.next + 1 := rfl
  have e2 : ((h.alloc (.row [.ptr (some (t, 0))] 1 false)).alloc (.row [.int .u32 fip, .int .u16 fport, .int .u32 tip, .int .u16 tport] 1 false)).next = h.next + 2 := rfl
  generalize hg3 : ((h.alloc (.row [.ptr (some (t, 0))] 1 false)).alloc (.row [.int .u32 fip, .int .u16 fport, .int .u32 tip, .int .u16 tport] 1 false)).alloc (.row [.int .u64 id] 1 false) = g3 at q3
  have hn3 : g3.next = h.next + 3 := by rw [← hg3]; rfl
  have c2 : g3.get h.next = some (.row [.ptr (some (t, 0))] 1 false) := by rw [← hg3, Hp.get_alloc_ne (by rw [e2]; omega), Hp.get_alloc_ne (by rw [e1]; omega)]; exact Hp.get_alloc_self
  have cp : g3.get (h.next + 1) = some (.row [.int .u32 fip, .int .u16 fport, .int .u32 tip, .int .u16 tport] 1 false) := by rw [← hg3, Hp.get_alloc_ne (by rw [e2]; omega), ← e1]; exact Hp.get_alloc_self
  have c1 : g3.get (h.next + 2) = some (.row [.int .u64 id] 1 false) := by rw [← hg3, ← e2]; exact Hp.get_alloc_self
  clear hg3
  simp only [e1, e2] at *
  refine ⟨some (t, 0), by rw [Hp.ld_of c2]; rfl, ?_⟩
  rintro g4 rfl
  have q4 := q3.trans (Quiet.alloc q3.wf (.row [.fn (.func 36) [] [], .fn (.func 38) [] [.ptr (some (h.next + 2, 0)), .ptr (some (h.next, 0))], .fn (.func 39) [] [.ptr (some (h.next, 0))]] 1 false))
  generalize hg4 : g3.alloc (.row [.fn (.func 36) [] [], .fn (.func 38) [] [.ptr (some (h.next + 2, 0)), .ptr (some (h.next, 0))], .fn (.func 39) [] [.ptr (some (h.next, 0))]] 1 false) = g4 at q4
  have hs4 : ∀ j, j < g3.next → g4.get j = g3.get j := fun j hj => by rw [← hg4]; exact Hp.get_alloc_ne (by omega)
  have hq4 : ClsAt g4 g3.next [cl36, cl38 s (h.next + 2) h.next id, cl39 s h.next] := by unfold ClsAt; rw [← hg4]; exact Hp.get_alloc_self
  have hn4 : g4.next = h.next + 4 := by rw [← hg4, Hp.alloc_next]; omega
  clear hg4
  have c1' := (hs4 _ (by omega)).trans c1
  have c2' := (hs4 _ (by omega)).trans c2
  have cp' := (hs4 _ (by omega)).trans cp
  have r4 := (TblR.rep t s).stay hw r q4.same
  refine (asks_spec (l := [cl36, cl38 s (h.next + 2) h.next id, cl39 s h.next]) q4.wf r4 hq4 (fun c hc => ?_) (by simp)).mono ?_
  · simp only [List.mem_cons, List.not_mem_nil, or_false] at hc
    rcases hc with rfl | rfl | rfl
    · exact ans36 q4.wf r4
    · exact ans38 q4.wf r4 c1' c2'
    · exact ans39 q4.wf r4 c2'
  rintro v g5 ⟨q5, hv⟩
  rw [askC_acc] at hv
  have qq := q4.trans q5
  have r5 := (TblR.rep t s).stay hw r qq.same
  by_cases c : accA s fd id = 0
  · rw [if_pos c] at hv
    obtain ⟨f1, x, hm, hsf, rfl, hk, hfc⟩ := hv
    refine ⟨_, _, _, rfl, ?_⟩
    simp only [bne_self_eq_false, cond_false]
    have hid : 0 < id ∧ sfind s.S id = none := by
      simp only [firstCode] at hfc
      split at hfc
      · rename_i h1; exact absurd hfc h1
      · split at hfc
        · rename_i h1; exact absurd hfc h1
        · rename_i h1
          have h2 : (cl38 s (h.next + 2) h.next id).code x.d = 0 := by simpa using h1
          simp only [cl38] at h2
          split at h2
          · assumption
          · cases h2
    obtain ⟨mf, ms, po, G, GP, a, f, at5, hFe⟩ := r5
    have lt5 := at5.lt qq.wf
    have s5 := fun j (hj : j < g4.next) => q5.same j hj
    have c15 := (s5 _ (by omega)).trans c1'
    have c25 := (s5 _ (by omega)).trans c2'
    have cp5 := (s5 _ (by omega)).trans cp'
    have hle5 := q5.le
    refine ⟨some (t, 0), by rw [Hp.ld_of c25]; rfl, ?_⟩
    simp only [onS]
    refine ⟨some ms, by rw [Hp.ld_of at5.row]; rfl, id, by rw [Hp.ld_of c15]; rfl, fip, fport, tip, tport, by rw [Hp.lda_of cp5 (Nat.le_of_ble_eq_true rfl)]; rfl, ?_⟩
    rintro g6 rfl
    obtain ⟨g7, hx7, at7, hs7, hn7, wf7⟩ := at5.newSock qq.wf hid.2 (kid fip fport tip tport)
    have hst : ∀ o j, j < g5.next → (g5.alloc o).get j = g5.get j := fun o j hj => Hp.get_alloc_ne (by omega)
    have c16 := (hst (.row (dkL (kid fip fport tip tport)) 1 false) _ (by omega)).trans c15
    have c26 := (hst (.row (dkL (kid fip fport tip tport)) 1 false) _ (by omega)).trans c25
    have row6 := (hst (.row (dkL (kid fip fport tip tport)) 1 false) _ (lt5 t (by simp))).trans at5.row
    refine ⟨⟨id, (Hp.ld_of c16 0).trans rfl, rfl⟩, ⟨some ms, (Hp.ld_of row6 _).trans rfl, rfl⟩, (by trivial), (by trivial), ⟨some (t, 0), (Hp.ld_of c26 0).trans rfl, rfl⟩, g7, hx7, ?_⟩
    have hFlt : ∀ j ∈ F, j < h.next := fun j hj => (TblR.rep t s).lt hw r hj
    have hms : ms ∈ F := by rw [hFe]; simp
    have hne : ∀ j, h.next ≤ j → j ≠ ms := fun j hj e => by have := hFlt _ (e ▸ hms); omega
    have c17 := (hs7 (h.next + 2) (by omega) (hne _ (by omega))).trans c15
    have c27 := (hs7 h.next (by omega) (hne _ (by omega))).trans c25
    have at8 := at7.setLast (if s.last < id then id else s.last)
    have hlast : (bif ltI s.last id then id else s.last) = if s.last < id then id else s.last := by
      rw [ltI_eq]; by_cases e : s.last < id <;> simp [e]
    refine ⟨some (t, 0), by rw [Hp.ld_of c27]; rfl, some (t, 0), by rw [Hp.ld_of c27]; rfl, s.last, by rw [Hp.ld_of at7.row]; rfl, id, by rw [Hp.ld_of c17]; rfl, _, Hp.st_of at7.row (Nat.le_of_ble_eq_true rfl), ?_⟩
    rw [hlast]
    have ht7 : t < g7.next := by have := lt5 t (by simp); omega
    have htF : t ∈ F := by rw [hFe]; simp
    have htn : ∀ j, h.next ≤ j → j ≠ t := fun j hj e => by have := hFlt _ (e ▸ htF); omega
    have r8 : TblR t { s with S := s.S ++ [⟨id, g5.next, kid fip fport tip tport⟩], last := if s.last < id then id else s.last } _ _ := ⟨mf, ms, po, G, GP, a, f, at8, rfl⟩
    generalize hg8 : g7.set t _ = g8 at r8
    have hg8' : g7.set t (.row (splice [.int .i64 s.most, .slc a s.own.length f, .map (some mf), .map (some ms), .ptr (some (po, 0)), .int .u64 s.last] 5 [.int .u64 (if s.last < id then id else s.last)]) 1 false) = g8 := hg8
    rw [hg8']
    have hs8 : ∀ j, j ≠ t → g8.get j = g7.get j := fun j hj => by rw [← hg8]; exact Hp.get_set_ne hj
    have wf8 : g8.wf := by rw [← hg8]; exact wf7.set ht7
    have hn8 : g8.next = g7.next := by rw [← hg8]; rfl
    clear hg8 hg8'
    have c18 := (hs8 (h.next + 2) (htn _ (by omega))).trans c17
    have c28 := (hs8 h.next (htn _ (by omega))).trans c27
    refine ⟨some (t, 0), by rw [Hp.ld_of c28]; rfl, id, by rw [Hp.ld_of c18]; rfl, ?_⟩
    refine (puts_spec (fi := ⟨1, 2, id, false⟩) wf8 r8 hA).mono ?_
    rintro _ g9 ⟨k, rfl, hk', r9, u9, wf9⟩
    refine ⟨_, rfl, hK _ _ ⟨wf9, t :: mf :: ms :: ((s.S ++ [(⟨id, g5.next, kid fip fport tip tport⟩ : Sk)]).map Sk.o ++ (G ++ GP)), ⟨fun j hj hF => ?_, fun j hj => ?_, ?_⟩, ?_⟩⟩
    · have hjF : j ∉ t :: mf :: ms :: ((s.S ++ [(⟨id, g5.next, kid fip fport tip tport⟩ : Sk)]).map Sk.o ++ (G ++ GP)) := fun hm => by
        rw [hFe] at hF
        simp only [List.map_append, List.map_cons, List.map_nil, List.mem_cons, List.mem_append, List.mem_singleton, List.not_mem_nil, or_false, not_or] at hm hF
        rcases hm with hm | hm | hm | (hm | hm) | hm | hm
        · exact hF.1 hm
        · exact hF.2.1 hm
        · exact hF.2.2.1 hm
        · exact hF.2.2.2.1 hm
        · omega
        · exact hF.2.2.2.2.1 hm
        · exact hF.2.2.2.2.2 hm
      rw [u9.same j (by omega) hjF, hs8 j (fun e => hF (e ▸ htF)), hs7 j (by omega) (fun e => hF (e ▸ hms)), qq.same j hj]
    · have := u9.new j hj
      rcases this with hm | hm
      · simp only [List.map_append, List.map_cons, List.map_nil, List.mem_cons, List.mem_append, List.mem_singleton, List.not_mem_nil, or_false] at hm
        rw [hFe]
        simp only [List.mem_cons, List.mem_append]
        rcases hm with hm | hm | hm | (hm | hm) | hm | hm
        · exact .inl (.inl hm)
        · exact .inl (.inr (.inl hm))
        · exact .inl (.inr (.inr (.inl hm)))
        · exact .inl (.inr (.inr (.inr (.inl hm))))
        · exact .inr (by omega)
        · exact .inl (.inr (.inr (.inr (.inr (.inl hm)))))
        · exact .inl (.inr (.inr (.inr (.inr (.inr hm)))))
      · exact .inr (by omega)
    · have := u9.le; omega
    · rw [if_pos c]
      exact ⟨k, g5.next, rfl, hk', r9⟩
  · rw [if_neg c] at hv
    subst hv
    refine ⟨_, _, _, rfl, ?_⟩
    have b : (accA s fd id != 0) = true := by simp [c]
    rw [b]
    exact hK _ _ ⟨qq.wf, F, qq.upd _, by rw [if_neg c]; exact ⟨rfl, r5⟩⟩
end
end Go.Vex.Call
