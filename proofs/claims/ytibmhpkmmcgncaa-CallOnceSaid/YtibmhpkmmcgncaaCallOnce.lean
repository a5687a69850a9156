/-
  CallOnce of layer 29: whatever how many descriptors there are and the script, the law returns true and leaves the input as it was. No condition.
-/
import Derived.Test.YtibmhpkmmcgncaaVexGG
import Derived.Test.YtibmhpkmmcgncaaTab29
import Derived.Test.YtibmhpkmmcgncaaXp29
import Derived.Test.YtibmhpkmmcgncaaCpa29
import Derived.Test.YtibmhpkmmcgncaaCpb29
import Derived.Test.YtibmhpkmmcgncaaCpc29
import Derived.Test.YtibmhpkmmcgncaaCpd29
import Derived.Test.YtibmhpkmmcgncaaXta29
import Derived.Test.YtibmhpkmmcgncaaCta29
import Derived.Test.YtibmhpkmmcgncaaXtb29
import Derived.Test.YtibmhpkmmcgncaaCtb29
import Derived.Test.YtibmhpkmmcgncaaCtc29
import Derived.Test.YtibmhpkmmcgncaaCtd29
import Derived.Test.YtibmhpkmmcgncaaXtf29
import Derived.Test.YtibmhpkmmcgncaaCtg29
import Derived.Test.YtibmhpkmmcgncaaXth29
import Derived.Test.YtibmhpkmmcgncaaCth29
import Derived.Test.YtibmhpkmmcgncaaXtj29
import Derived.Test.YtibmhpkmmcgncaaCtj29
import Derived.Test.YtibmhpkmmcgncaaXtk29
import Derived.Test.YtibmhpkmmcgncaaRows
import Derived.WalkKit
import Derived.ProofKit
import Derived.OpenShut
import Derived.KernelRfl
set_option linter.unusedVariables false
set_option linter.unusedSimpArgs false
namespace Go.Vex.CallOnce
open Go.Proofs
open Go.Vex.Call
open Go.Vex.Ports (Quiet)

set_option maxRecDepth 100000 in
theorem works_ev : (ev Vex.T Vex.F (fun _ => []) 100000).call 17 [] h0 isT = true := by kernel_rfl

theorem works_spec {h : Hp} {K : V → Hp → Prop} (hk : ∀ h', K (.bool true) h') : XCalls Try.prog 17 [] h K :=
  (XCalls.fresh (K := fun v => v = .bool true) rfl (fun v hv => by subst hv; rfl) (XCalls.ev tok fok mixed (fun _ => []) 100000 works_ev fun _ _ hv => isT_spec hv)).mono fun v h' hv => by rw [hv.1]; exact hk h'

def stepZ : List V := [.int .i64 0, .int .u8 0, .int .i64 0, .bool false, .int .u32 0, .int .u16 0, .int .u32 0, .int .u16 0, .int .u64 0]

theorem step_form {r : List V} (h : shpBs stepZ r = true) : ∃ d p fd is ip port own draw id, r = [.int .i64 d, .int .u8 p, .int .i64 fd, .bool is, .int .u32 ip, .int .u16 port, .int .u32 own, .int .u16 draw, .int .u64 id] :=
  allSs_spec stepZ r (k := fun r => ∃ d p fd is ip port own draw id, r = [.int .i64 d, .int .u8 p, .int .i64 fd, .bool is, .int .u32 ip, .int .u16 port, .int .u32 own, .int .u16 draw, .int .u64 id]) (fun a b c d e f g h i => ⟨a, b, c, d, e, f, g, h, i, rfl⟩) h

abbrev vU : Int → V := fun n => .int .u64 n
theorem mtM : MT T 57 kF (vU 0) := ⟨(T 57).get rfl, 3, 30, (T 30).get rfl, rfl, rfl, rfl, rfl, KL.int (ti := (T 3).get rfl) rfl rfl⟩

theorem mput_nd {κ β : Type} [DecidableEq κ] {l : List (κ × β)} (h : (l.map Prod.fst).Nodup) (k : κ) (v : β) : ((mput l k v).map Prod.fst).Nodup := by
  cases hg : mget l k with
  | none =>
    rw [mput_none l k v hg, List.map_append, List.nodup_append]
    refine ⟨h, by simp, fun a ha b hb => ?_⟩
    simp at hb; subst hb
    exact fun e => (mget_mem l b).2 (e ▸ ha) hg
  | some w => rw [mput_some l k v (by rw [hg]; simp)]; exact h

theorem mget_of {κ β : Type} [DecidableEq κ] : ∀ {l : List (κ × β)}, (l.map Prod.fst).Nodup → ∀ {z : κ × β}, z ∈ l → mget l z.1 = some z.2
  | [], _, _, h => by cases h
  | x :: l, hn, z, h => by
    rw [List.map_cons, List.nodup_cons] at hn
    rw [mget_cons]
    rcases List.mem_cons.1 h with rfl | h
    · rw [if_pos rfl]
    · rw [if_neg (fun e : z.1 = x.1 => hn.1 (e ▸ List.mem_map_of_mem h))]
      exact mget_of hn.2 h

theorem mget_app {κ β : Type} [DecidableEq κ] (l r : List (κ × β)) (k : κ) : mget (l ++ r) k = (mget l k).or (mget r k) := by
  unfold mget
  rw [List.find?_append, Option.map_or]

theorem sfind_none {S : List Sk} {id : Int} (h : ∀ x ∈ S, x.id < id) : sfind S id = none := by
  unfold sfind
  rw [List.find?_eq_none]
  intro x hx
  have := h x hx
  simp only [decide_eq_true_eq]; omega

theorem ci_born {s : TS} (c : Call.CI s) {k : Nat} (hk : Least s.A k) {f : Fi} (hf : f.id = s.last + 1) (hl : (s.A.length : Int) < s.most) (h0 : 0 ≤ s.last) {S' : List Sk} (hS : S' = s.S ∨ ∃ o d, S' = s.S ++ [⟨s.last + 1, o, d⟩]) :
    Call.CI { s with A := s.A ++ [((k : Int), f)], last := s.last + 1, S := S' } where
  pn := c.pn
  pl := c.pl
  sn := by
    rcases hS with rfl | ⟨o, d, rfl⟩
    · exact c.sn
    · simp only [List.map_append, List.map_cons, List.map_nil]
      rw [List.nodup_append]
      refine ⟨c.sn, by simp, fun a ha b hb => ?_⟩
      obtain ⟨x, hx, rfl⟩ := List.mem_map.1 ha
      have := c.sl x hx
      simp at hb; omega
  sl := fun x hx => by
    simp only at hx ⊢
    rcases hS with rfl | ⟨o, d, rfl⟩
    · have := c.sl x hx; omega
    · rcases List.mem_append.1 hx with hx | hx
      · have := c.sl x hx; omega
      · rw [List.mem_singleton] at hx; subst hx; exact Int.le_refl _
  al := by simp only [List.length_append, List.length_singleton]; push_cast; omega
  ai := fun fd g hg => by
    simp only at hg ⊢
    rw [mget_app] at hg
    cases hm : mget s.A fd with
    | some g' =>
      rw [hm] at hg
      have := c.ai fd g' hm
      have e : g' = g := by simpa using hg
      rw [← e]; omega
    | none =>
      rw [hm] at hg
      simp [mget] at hg
      rw [← hg.2, hf]; omega
  an := by
    simp only [List.map_append, List.map_cons, List.map_nil]
    rw [List.nodup_append]
    refine ⟨c.an, by simp, fun a ha b hb => ?_⟩
    simp at hb; subst hb
    exact fun e => (mget_mem s.A _).2 (e ▸ ha) hk.1
  ol := c.ol
  ml := c.ml

theorem opened_spec {h : Hp} {t : Nat} {s : TS} {F : List Nat} {p : Int} (hw : h.wf) (r : TblR t s h F) (c : Call.CI s) (hl : 0 ≤ s.last ∧ s.last < 1000000) :
    XCalls Try.prog 19 [.ptr (some (t, 0)), .int .u8 p] h fun v h' => h'.wf ∧ ∃ F', Upd h h' F F' ∧
      ((∃ n1 n2 n3 : Int, n3 ≠ 0 ∧ v = .tup [.int .i64 n1, .int .u64 n2, .int .i64 n3] ∧ TblR t s h' F') ∨
       ∃ (k : Nat) (s' : TS) (f : Fi), v = .tup [.int .i64 k, .int .u64 (s.last + 1), .int .i64 0] ∧ Least s.A k ∧ (s.A.length : Int) < s.most ∧ TblR t s' h' F' ∧ s'.A = s.A ++ [((k : Int), f)] ∧ f.id = s.last + 1 ∧ s'.last = s.last + 1 ∧ s'.most = s.most ∧ Call.CI s') := by
  have hA : s.A.length ≤ 1000 := by have := c.al; have := c.ml; omega
  have hno : sfind s.S (s.last + 1) = none := sfind_none fun x hx => by have := c.sl x hx; omega
  refine XCalls.cps fun K hK => ?_
  apply x19; unfold X19
  by_cases h0 : p = 0
  · have b : (p == 0) = true := by simp [h0]
    simp only [b, cond_true]
    apply x26; unfold X26
    have r0 := r
    obtain ⟨mf, ms, po, G, GP, a, f, at0, hFe⟩ := r
    refine ⟨some mf, by rw [Hp.ld_of at0.row]; rfl, ?_⟩
    simp only [Option.isNone_some, cond_false]
    refine (opens_spec (fi := ⟨2, 0, 0, false⟩) hw r0 hA hl).mono ?_
    rintro v g1 ⟨u1, wf1, hv⟩
    split at hv
    · obtain ⟨rfl, r1⟩ := hv
      exact ⟨_, _, _, rfl, _, _, _, rfl, hK _ _ ⟨wf1, F, u1, .inl ⟨_, _, _, by omega, rfl, r1⟩⟩⟩
    · rename_i hc
      obtain ⟨k, rfl, hk, r1⟩ := hv
      exact ⟨_, _, _, rfl, _, _, _, rfl, hK _ _ ⟨wf1, F, u1, .inr ⟨k, _, _, rfl, hk, by omega, r1, rfl, rfl, rfl, rfl, ci_born c hk rfl (by omega) hl.1 (.inl rfl)⟩⟩⟩
  · have b : (p == 0) = false := by simp [h0]
    simp only [b, cond_false]
    by_cases hp : p = 1 ∨ p = 2
    · refine (socket_spec hw r hp hA hl hno).mono ?_
      rintro v g1 ⟨wf1, F', u1, hv⟩
      split at hv
      · obtain ⟨rfl, r1⟩ := hv
        exact ⟨_, _, _, rfl, hK _ _ ⟨wf1, F', u1, .inl ⟨_, _, _, by omega, rfl, r1⟩⟩⟩
      · rename_i hc
        obtain ⟨k, o, rfl, hk, r1⟩ := hv
        exact ⟨_, _, _, rfl, hK _ _ ⟨wf1, F', u1, .inr ⟨k, _, _, rfl, hk, by omega, r1, rfl, rfl, rfl, rfl, ci_born c hk rfl (by omega) hl.1 (.inr ⟨o, _, rfl⟩)⟩⟩⟩
    · apply x9; unfold X9
      have r0 := r
      obtain ⟨mf, ms, po, G, GP, a, f, at0, hFe⟩ := r
      have b1 : (p != 1) = true := by simp; omega
      have b2 : (p != 2) = true := by simp; omega
      refine ⟨fun _ _ => False, ⟨some mf, by rw [Hp.ld_of at0.row]; rfl, ?_⟩, fun _ _ h => h.elim⟩
      simp only [Option.isNone_some, cond_false, b1, b2, cond_true]
      exact ⟨_, _, _, rfl, hK _ _ ⟨hw, F, Upd.refl _ _, .inl ⟨_, _, _, by omega, rfl, r0⟩⟩⟩

/-- the law's state -/
structure LS (g0 : Hp) (t mfl : Nat) (N : Int) (g : Hp) (s : TS) (F : List Nat) (Fm : List (Int × Int)) : Prop where
  r : TblR t s g F
  mo : ∃ o, g.get mfl = some o ∧ MO kF vU Fm o
  nf : mfl ∉ F
  most : s.most = N
  ci : Call.CI s
  rel : ∀ fd, (mget Fm fd).getD 0 = ((mget s.A fd).map Fi.id).getD 0
  nd : (Fm.map Prod.fst).Nodup
  wf : g.wf
  kp : g0.keeps g

section
variable {g0 g g' : Hp} {t mfl : Nat} {N : Int} {s s' : TS} {F F' : List Nat} {Fm : List (Int × Int)}

theorem LS.lt (l : LS g0 t mfl N g s F Fm) : mfl < g.next := by
  obtain ⟨o, h, _⟩ := l.mo; exact l.wf.lt h

theorem LS.quiet (l : LS g0 t mfl N g s F Fm) (q : Quiet g g') : LS g0 t mfl N g' s F Fm :=
  ⟨(TblR.rep t s).stay l.wf l.r q.same, by obtain ⟨o, h1, h2⟩ := l.mo; exact ⟨o, (q.same _ l.lt).trans h1, h2⟩, l.nf, l.most, l.ci, l.rel, l.nd, q.wf, l.kp.stay l.wf q.same⟩

theorem LS.table (l : LS g0 t mfl N g s F Fm) (u : Upd g g' F F') (wf' : g'.wf) (r' : TblR t s' g' F') (hm : s'.most = s.most) (ci' : Call.CI s') (rel' : ∀ fd, (mget Fm fd).getD 0 = ((mget s'.A fd).map Fi.id).getD 0) : LS g0 t mfl N g' s' F' Fm :=
  ⟨r', by obtain ⟨o, h1, h2⟩ := l.mo; exact ⟨o, (u.same _ l.lt l.nf).trans h1, h2⟩, fun h => (u.new _ h).elim l.nf (fun h => by have := l.lt; omega), by rw [hm, l.most], ci', rel', l.nd, wf', u.keeps (TblR.rep t s) l.wf l.r l.kp⟩

/-- the same without the relation -/
theorem LS.table' (l : LS g0 t mfl N g s F Fm) (u : Upd g g' F F') (r' : TblR t s' g' F') : (∃ o, g'.get mfl = some o ∧ MO kF vU Fm o) ∧ mfl ∉ F' ∧ g0.keeps g' :=
  ⟨by obtain ⟨o, h1, h2⟩ := l.mo; exact ⟨o, (u.same _ l.lt l.nf).trans h1, h2⟩, fun h => (u.new _ h).elim l.nf (fun h => by have := l.lt; omega), u.keeps (TblR.rep t s) l.wf l.r l.kp⟩
end

theorem files_put {g0 g : Hp} {t mfl : Nat} {s : TS} {F : List Nat} {Fm : List (Int × Int)} {N : Int} (r : TblR t s g F) (mo : ∃ o, g.get mfl = some o ∧ MO kF vU Fm o) (nf : mfl ∉ F) (most : s.most = N) (ci : Call.CI s) (nd : (Fm.map Prod.fst).Nodup) (wf : g.wf) (kp : g0.keeps g) (fd v : Int)
    (rel : ∀ x, (if x = fd then v else (mget Fm x).getD 0) = ((mget s.A x).map Fi.id).getD 0) :
    ∃ g', xput T g 57 (.map (some mfl)) (.int .i64 fd) (.int .u64 v) = some g' ∧ LS g0 t mfl N g' s F (mput Fm fd v) ∧ g'.next = g.next := by
  obtain ⟨o, h1, h2⟩ := mo
  obtain ⟨o', mo', hput⟩ := h2.put mtM fd v
  have hl := wf.lt h1
  refine ⟨_, hput g mfl h1, ⟨(TblR.rep t s).loc _ _ _ (fun j hj => Hp.get_set_ne fun e => nf (e ▸ hj)) r, ⟨o', Hp.get_set_self, mo'⟩, nf, most, ci, fun x => ?_, mput_nd nd _ _, wf.set hl, fun q c e hq => ?_⟩, rfl⟩
  · rw [mget_mput, ← rel x]
    by_cases e : x = fd
    · rw [if_pos e, if_pos e]; rfl
    · rw [if_neg e, if_neg e]
  · have h3 := kp q c e hq
    rw [Hp.get_set_ne fun e' => ?_]
    · exact h3
    · rw [e', h1] at h3
      have := h2.rw
      rw [Option.some.inj h3] at this; cases this

set_option maxRecDepth 20000 in
theorem law_calls (most : Int) (w1 : (Lit.int .u8 most).wf = true) {h : Hp} {a : Option (Nat × Nat)} {n : Nat} {f : Bool} {rows : List (List V)} (ha : RoSlc h a n rows 9)
    (hr0 : ∀ r ∈ rows, shpBs stepZ r = true ∧ ∀ v ∈ r, v.fits) (hbz : n * Try.prog.bytesOf 59 ≤ reachBytes) : XCalls Try.prog 5 [.int .u8 most, .slc a n f] h fun v _ => v = .bool true := by
  have hz : ∀ r ∈ rows, r.length = 9 := fun r h => shpBs_length (hr0 r h).1
  refine XCalls.ofWf fun hw => ?_
  refine XCalls.cps fun K hK => ?_
  have KT : ∀ h', K (.bool true) h' := fun h' => hK _ _ rfl
  have hmo := lit_bnd w1
  simp [IntKind.min, IntKind.max, IntKind.signed, IntKind.bits] at hmo
  apply x5; unfold X5
  cases c0 : ltI 250 (↑n) with
  | true => exact works_spec fun _ => ⟨_, rfl, KT _⟩
  | false =>
  rw [ltI_eq, decide_eq_false_iff_not] at c0
  simp only [cond_false]
  refine ⟨by omega, ?_⟩
  rintro g1 rfl
  obtain ⟨N, hN, hN1⟩ : ∃ N : Int, IntKind.i64.wrap ((IntKind.i64.wrap most).tmod 64 + 1) = N ∧ 1 ≤ N ∧ N ≤ 64 := by
    refine ⟨_, rfl, ?_⟩
    rw [wr (x := most) (by omega) (by omega), Int.tmod_eq_emod_of_nonneg hmo.1, wr (by omega) (by omega)]; omega
  rw [hN]
  have q1 : Quiet h (h.alloc (.row [.int .u32 7] 1 false)) := Ports.Quiet.alloc hw _
  refine (newt_spec (most := N) (xs := [7]) (fl := true) q1.wf hN1 (by simp) (by simp) Hp.get_alloc_self).mono ?_
  rintro _ g2 ⟨t, F2, rfl, r2, q2, hF2⟩
  refine ⟨_, _, rfl, ?_⟩
  simp only [bne_self_eq_false, cond_false, Option.isNone_some]
  rintro g3 rfl
  have q12 := q1.trans q2
  have q3 := Ports.Quiet.alloc q2.wf (.map [] 0)
  have hst3 := q12.trans q3
  have kp3 : h.keeps (g2.alloc (.map [] 0)) := (Hp.keeps.refl h).stay hw hst3.same
  have l3 : LS h t g2.next N (g2.alloc (.map [] 0)) ⟨N, [7], [], [], [], 0⟩ F2 [] :=
    ⟨(TblR.rep _ _).stay q2.wf r2 q3.same, ⟨_, Hp.get_alloc_self, MO.nil _ _⟩, fun hm => by have := (TblR.rep _ _).lt q2.wf r2 hm; omega, rfl,
      ⟨by simp, by simp, by simp, by simp, by simp; omega, by simp [mget], by simp, by simp, hN1.2⟩, fun fd => rfl, by simp, q3.wf, kp3⟩
  refine ⟨fun vs g => match vs with
    | [.int _ lv, .int _ x] => ∃ (k : Nat) (s : TS) (F : List Nat) (Fm : List (Int × Int)), x = k ∧ k ≤ n ∧ lv ≤ s.last ∧ 0 ≤ s.last ∧ s.last ≤ k ∧ LS h t g2.next N g s F Fm
    | _ => False, fun vs _ => match vs with
    | [_, .int _ x] => n - x.toNat
    | _ => 0, ⟨(by trivial), 0, _, F2, [], rfl, by omega, by simp, by simp, by simp, l3⟩, ?_⟩
  rintro bs lv x g ⟨k, s, F, Fm, rfl, hk, hlv, hl0, hlast, L⟩
  cases c3 : ltI (↑k) (↑n) with
  | false => exact works_spec fun _ => ⟨_, rfl, KT _⟩
  | true =>
  rw [ltI_eq, decide_eq_true_eq] at c3
  have hw1 : IntKind.i64.wrap ((k : Int) + 1) = ((k + 1 : Nat) : Int) := by rw [wr (by omega) (by omega)]; rfl
  have dec : n - Int.toNat (IntKind.i64.wrap ((k : Int) + 1)) < n - Int.toNat (k : Int) := by
    rw [hw1]; simp only [Int.toNat_natCast]; omega
  have hbd : (0 : Int) ≤ k ∧ (k : Int) < n := ⟨by omega, c3⟩
  obtain ⟨q, row, rfl, hrow, hld, hlda⟩ := ha.ld L.kp (k := k) (by omega) hz
  obtain ⟨hsh, hfit⟩ := hr0 row (List.mem_of_getElem? hrow)
  obtain ⟨d, p, fd, is, ip, port, own, draw, id, rfl⟩ := step_form hsh
  have hdr : 0 ≤ draw ∧ draw < 65536 := by
    have := hfit (.int .u16 draw) (by simp)
    simp [V.fits, IntKind.min, IntKind.max, IntKind.signed, IntKind.bits] at this
    omega
  simp only [cond_true]
  refine ⟨hbd, d, p, fd, is, ip, port, own, draw, id, by simp only [Int.toNat_natCast]; rw [Nat.zero_add] at hlda ⊢; exact hlda, ?_⟩
  rintro g5 rfl
  refine ⟨_, Hp.st_of Hp.get_alloc_self (Nat.le_of_ble_eq_true rfl), ?_⟩
  generalize hg6 : (g.alloc _).set g.next _ = g6
  have row6 : g6.get g.next = some (.row [.int .i64 d, .int .u8 p, .int .i64 fd, .bool is, .int .u32 ip, .int .u16 port, .int .u32 own, .int .u16 draw, .int .u64 id] 1 false) := by rw [← hg6]; exact Hp.get_set_self
  have q6 : Quiet g g6 := ⟨fun j hj => by rw [← hg6, Hp.get_set_ne (by omega), Hp.get_alloc_ne (by omega)], by rw [← hg6]; simp only [Hp.set_next, Hp.alloc_next]; omega, by rw [← hg6]; exact L.wf.alloc.set (by simp [Hp.alloc_next])⟩
  have n6 : g6.next = g.next + 1 := by rw [← hg6]; rfl
  clear hg6
  have L6 := L.quiet q6
  have hgF : g.next ∉ F := fun hm => by have := (TblR.rep t s).lt L.wf L.r hm; omega
  have hgm : g.next ≠ g2.next := fun e => by have := L.lt; omega
  refine ⟨fun vs g' => match vs with
    | [.int _ lv'] => ∃ (s' : TS) (F' : List Nat) (Fm' : List (Int × Int)), lv' ≤ s'.last ∧ 0 ≤ s'.last ∧ s'.last ≤ (k : Int) + 1 ∧ LS h t g2.next N g' s' F' Fm'
    | _ => False, ?_, ?_⟩
  · refine ⟨d, by rw [Hp.ld_of row6]; rfl, ?_⟩
    cases d0 : d == 0 with
    | true =>
      refine ⟨p, by rw [Hp.ld_of row6]; rfl, (opened_spec L6.wf L6.r L6.ci (by omega)).mono ?_⟩
      rintro v g7 ⟨wf7, F7, u7, hv⟩
      rcases hv with ⟨n1, n2, n3, hn3, rfl, r7⟩ | ⟨kk, s7, f7, rfl, hk7, hlt7, r7, hA7, hf7, hl7, hm7, ci7⟩
      · refine ⟨n1, n2, n3, rfl, ?_⟩
        have b : (n3 != 0) = true := by simp [hn3]
        simp only [b, cond_true]
        exact ⟨(by trivial), ⟨k + 1, s, F7, Fm, hw1, by omega, hlv, hl0, by push_cast; omega, L6.table u7 wf7 r7 rfl L6.ci L6.rel⟩, dec⟩
      · refine ⟨_, _, _, rfl, ?_⟩
        have b1 : ltI lv (s.last + 1) = true := by rw [ltI_eq, decide_eq_true_eq]; omega
        have hkl := below_le hk7.2
        have hkN : (kk : Int) < N := by have := L.most; omega
        have b3 : ltI (↑kk) 0 = false := by rw [ltI_eq, decide_eq_false_iff_not]; omega
        have b4 : ltI (↑kk) N = true := by rw [ltI_eq, decide_eq_true_eq]; exact hkN
        simp only [bne_self_eq_false, cond_false, b1, b3, b4, Bool.not_true]
        obtain ⟨⟨o7, hm7', mo7⟩, nf7, kp7⟩ := L6.table' u7 r7
        have look : ∀ x : Int, xlook T g7 57 (.map (some g2.next)) (.int .i64 x) false = some (.int .u64 (((mget s.A x).map Fi.id).getD 0)) := fun x => by
          have := mo7.look mtM x g7 g2.next hm7'
          rw [lookV_getD, L.rel x] at this
          exact this
        refine ⟨_, look kk, ?_⟩
        rw [hk7.1]
        simp only [Option.map_none, Option.getD_none, bne_self_eq_false, cond_false]
        refine ⟨fun vs g' => match vs with
          | [.int _ x] => ∃ j : Nat, x = j ∧ j ≤ kk ∧ g' = g7
          | _ => False, fun vs _ => match vs with
          | [.int _ x] => kk - x.toNat
          | _ => 0, ⟨(by trivial), 0, rfl, Nat.zero_le _, rfl⟩, ?_⟩
        rintro bs2 x2 g8 ⟨j, rfl, hj, rfl⟩
        cases c8 : ltI (↑j) (↑kk) with
        | true =>
          rw [ltI_eq, decide_eq_true_eq] at c8
          obtain ⟨fj, hfj⟩ : ∃ fj, mget s.A (j : Int) = some fj := by
            cases hq : mget s.A (j : Int) with
            | some fj => exact ⟨fj, rfl⟩
            | none => exact absurd hq (hk7.2 j (by omega))
          have hid := L.ci.ai _ _ hfj
          refine ⟨_, look j, ?_⟩
          rw [hfj]
          simp only [Option.map_some, Option.getD_some]
          have b : (fj.id == 0) = false := by simp; omega
          simp only [b, cond_false]
          have hwj : IntKind.i64.wrap ((j : Int) + 1) = ((j + 1 : Nat) : Int) := by rw [wr (by omega) (by omega)]; rfl
          refine ⟨(by trivial), ⟨j + 1, hwj, by omega, (by trivial)⟩, ?_⟩
          show kk - Int.toNat (IntKind.i64.wrap ((j : Int) + 1)) < kk - Int.toNat (j : Int)
          rw [hwj]; simp only [Int.toNat_natCast]; omega
        | false =>
          obtain ⟨g9, hp9, L9, n9⟩ := files_put (g0 := h) r7 ⟨o7, hm7', mo7⟩ nf7 (by rw [hm7, L.most]) ci7 L.nd wf7 kp7 (kk : Int) (s.last + 1) (fun x => by
            rw [hA7, mget_app, L.rel x]
            by_cases e : x = (kk : Int)
            · rw [if_pos e, e, hk7.1]; simp [mget, hf7]
            · rw [if_neg e]
              cases hm : mget s.A x with
              | some y => rfl
              | none => simp [mget, e])
          refine ⟨g9, hp9, (by trivial), s7, F7, _, by rw [hl7]; exact Int.le_refl _, by omega, by omega, L9⟩
    | false =>
    simp only [cond_false]
    cases d7 : d == 7 with
    | true =>
      refine ⟨fd, by rw [Hp.ld_of row6]; rfl, (close_spec (fd := fd) L6.wf L6.r).mono ?_⟩
      rintro _ g7 ⟨rfl, r7, u7, wf7⟩
      have row7 := (u7.same _ (by omega) hgF).trans row6
      have l7 := u7.le
      obtain ⟨mo7, nf7, kp7⟩ := L6.table' u7 r7
      generalize hff : (mget s.A fd).getD f0 = ff
      refine ⟨ff.kind, ff.proto, ff.id, ff.calm, _, rfl, ?_⟩
      rintro g8 rfl
      refine ⟨_, Hp.st_of Hp.get_alloc_self (Nat.le_of_ble_eq_true rfl), ?_⟩
      generalize hg9 : (g7.alloc _).set g7.next _ = g9
      have fr9 : g9.get g7.next = some (.row [.int .u8 ff.kind, .int .u8 ff.proto, .int .u64 ff.id, .bool ff.calm] 1 false) := by rw [← hg9]; exact Hp.get_set_self
      have q9 : Quiet g7 g9 := ⟨fun j hj => by rw [← hg9, Hp.get_set_ne (by omega), Hp.get_alloc_ne (by omega)], by rw [← hg9]; simp only [Hp.set_next, Hp.alloc_next]; omega, by rw [← hg9]; exact wf7.alloc.set (by simp [Hp.alloc_next])⟩
      clear hg9
      have row9 := (q9.same _ (by omega)).trans row7
      have r9 := (TblR.rep _ _).stay wf7 r7 q9.same
      obtain ⟨o7, hm7, mo7⟩ := mo7
      have hm9 := (q9.same _ (wf7.lt hm7)).trans hm7
      have kp9 := kp7.stay wf7 q9.same
      have look : ∀ x : Int, xlook T g9 57 (.map (some g2.next)) (.int .i64 x) false = some (.int .u64 (((mget s.A x).map Fi.id).getD 0)) := fun x => by
        have := mo7.look mtM x g9 g2.next hm9
        rw [lookV_getD, L.rel x] at this
        exact this
      refine ⟨fd, by rw [Hp.ld_of row9]; rfl, _, look fd, ?_⟩
      have ci9 : Call.CI { s with A := if (mget s.A fd).isSome then mdel s.A fd else s.A } := by
        split
        · refine ⟨L.ci.pn, L.ci.pl, L.ci.sn, L.ci.sl, ?_, fun x y hy => ?_, L.ci.an.sublist (List.Sublist.map _ (mdel_sub _ _)), L.ci.ol, L.ci.ml⟩
          · have := (mdel_sub s.A fd).length_le
            have := L.ci.al
            simp only; omega
          · simp only at hy
            by_cases e : x = fd
            · rw [e, mget_self _ _ L.ci.an] at hy; cases hy
            · rw [mget_mdel _ _ _ e] at hy; exact L.ci.ai x y hy
        · exact L.ci
      have put : ∃ g', xput T g9 57 (.map (some g2.next)) (.int .i64 fd) (.int .u64 0) = some g' ∧ LS h t g2.next N g' { s with A := if (mget s.A fd).isSome then mdel s.A fd else s.A } F (mput Fm fd 0) ∧ g'.next = g9.next :=
        files_put (g0 := h) r9 ⟨o7, hm9, mo7⟩ nf7 L.most ci9 L.nd q9.wf kp9 fd 0 fun x => by
          simp only
          rw [L.rel x]
          by_cases e : x = fd
          · rw [if_pos e, e]
            split
            · rw [mget_self _ _ L.ci.an]; rfl
            · rename_i hn
              cases hm : mget s.A fd with
              | none => rfl
              | some y => rw [hm] at hn; simp at hn
          · rw [if_neg e]
            split
            · rw [mget_mdel _ _ _ e]
            · rfl
      cases hm : mget s.A fd with
      | none =>
        have b : ((290 : Int) == 0) = false := by decide
        simp only [Option.isSome_none, Bool.false_eq_true, if_false, Option.map_none, Option.getD_none, bne_self_eq_false, b, beq_self_eq_true, Bool.not_true, cond_false]
        obtain ⟨g10, hp10, L10, _⟩ := put
        exact ⟨fd, by rw [Hp.ld_of row9]; rfl, g10, hp10, (by trivial), { s with A := if (mget s.A fd).isSome then mdel s.A fd else s.A }, F, mput Fm fd 0, hlv, hl0, by simp only; omega, L10⟩
      | some f1 =>
        rw [hm] at hff
        simp only [Option.getD_some] at hff
        subst hff
        have hid := L.ci.ai _ _ hm
        have b : (f1.id != 0) = true := by simp; omega
        simp only [Option.isSome_some, if_true, Option.map_some, Option.getD_some, b, beq_self_eq_true, Bool.not_true, cond_false, cond_true]
        refine ⟨f1.id, by rw [Hp.ld_of fr9]; rfl, fd, by rw [Hp.ld_of row9]; rfl, _, look fd, ?_⟩
        rw [hm]
        simp only [Option.map_some, Option.getD_some, bne_self_eq_false, cond_false]
        obtain ⟨g10, hp10, L10, _⟩ := put
        exact ⟨fd, by rw [Hp.ld_of row9]; rfl, g10, hp10, (by trivial), { s with A := if (mget s.A fd).isSome then mdel s.A fd else s.A }, F, mput Fm fd 0, hlv, hl0, by simp only; omega, L10⟩
    | false =>
    simp only [cond_false]
    cases d8 : d == 8 with
    | true =>
      refine ⟨id, by rw [Hp.ld_of row6]; rfl, (free_spec (id := id) L6.wf L6.r L6.ci.sn L6.ci.pn (by have := L.ci.pl; omega)).mono ?_⟩
      rintro v g7 ⟨wf7, hv⟩
      split at hv
      · obtain ⟨rfl, F7, _, r7, u7⟩ := hv
        have ci7 : Call.CI { s with S := sdel s.S id, P := Ports.without s.P [id] } :=
          ⟨L.ci.pn.sublist (List.Sublist.map _ List.filter_sublist), Nat.le_trans (List.length_filter_le _ _) L.ci.pl, L.ci.sn.sublist (List.Sublist.map _ List.filter_sublist), fun x hx => L.ci.sl x (List.mem_filter.1 hx).1, L.ci.al, L.ci.ai, L.ci.an, L.ci.ol, L.ci.ml⟩
        exact ⟨_, rfl, (by trivial), { s with S := sdel s.S id, P := Ports.without s.P [id] }, F7, Fm, hlv, hl0, by simp only; omega, L6.table u7 wf7 r7 rfl ci7 L.rel⟩
      · obtain ⟨rfl, r7, u7⟩ := hv
        exact ⟨_, rfl, (by trivial), s, F, Fm, hlv, hl0, by omega, L6.table u7 wf7 r7 rfl L.ci L.rel⟩
    | false =>
    simp only [cond_false]
    refine ⟨d, by rw [Hp.ld_of row6]; rfl, ?_⟩
    cases d6 : d != 6 with
    | false => exact ⟨(by trivial), s, F, Fm, hlv, hl0, by omega, L6⟩
    | true =>
      refine ⟨d, p, fd, is, ip, port, own, draw, id, by rw [Hp.lda_of row6 (Nat.le_of_ble_eq_true rfl)]; rfl, (rnew L6.wf).mono ?_⟩
      rintro _ g7 ⟨r, rfl, er, q7, hr7⟩
      have L7 := L6.quiet q7
      have row7 := (q7.same _ (by omega)).trans row6
      have hrF : r ∉ F := fun hm => by have := (TblR.rep t s).lt L6.wf L6.r hm; omega
      refine ⟨_, rfl, ⟨d, p, fd, is, ip, port, own, draw, id, by rw [Hp.lda_of row7 (Nat.le_of_ble_eq_true rfl)]; rfl, rfl⟩, (by trivial), ?_⟩
      have hd : d ≠ 0 ∧ d ≠ 6 ∧ d ≠ 7 ∧ d ≠ 8 := ⟨by simpa using d0, by simpa using d6, by simpa using d7, by simpa using d8⟩
      refine (doest_spec L7.wf L7.r L7.ci er hrF hd hdr).mono ?_
      rintro _ g8 ⟨⟨b, rfl⟩, u8, wf8, s8, hs8, r8⟩
      refine ⟨b, rfl, (by trivial), s8, F, Fm, by rw [hs8.last]; exact hlv, by rw [hs8.last]; exact hl0, by rw [hs8.last]; omega, L7.table u8 wf8 r8 hs8.most hs8.ci fun x => by rw [hs8.ids x]; exact L.rel x⟩
  rintro bs3 lv' g7 ⟨s7, F7, Fm7, hlv7, hl07, hlast7, L7⟩
  obtain ⟨o7, hm7, mo7⟩ := L7.mo
  obtain ⟨g8, hrg, it8, hs8, hn8, wf8⟩ := mo7.iter mtM hm7 L7.wf
  have q8 : Quiet g7 g8 := ⟨fun j hj => hs8 j (by omega), by omega, wf8⟩
  refine ⟨g8, hrg, fun _ g' => ∃ done, Itr kF vU Fm7 g2.next g7.next done g' ∧ LS h t g2.next N g' s7 F7 Fm7 ∧ g7.next < g'.next, fun _ g' => Fm7.length - itN g7.next g', ⟨(by trivial), [], it8, L7.quiet q8, by omega⟩, ?_⟩
  rintro bs4 g9 ⟨done, it9, L9, hn9⟩
  obtain ⟨l, hl, hend, hforms, hstep⟩ := it9.next L9.wf
  refine ⟨l, hl, fun hmem => ⟨(by trivial), ⟨k + 1, s7, F7, Fm7, hw1, by omega, hlv7, hl07, by push_cast; omega, L9⟩, dec⟩, hforms, ?_⟩
  intro ka va g10 hmem
  obtain ⟨z, hz', rfl, rfl, hent, hs10, hn10, wf10, _, hnx10⟩ := hstep ka va g10 hmem
  refine ⟨z.1, z.2, hent, ?_⟩
  have hitF : g7.next ∉ F7 := fun hm => by have := (TblR.rep t s7).lt L7.wf L7.r hm; omega
  have hitm : g7.next ≠ g2.next := fun e => by have := L7.lt; omega
  have r10 : TblR t s7 g10 F7 := (TblR.rep _ _).loc _ _ _ (fun j hj => hs10 j fun e => hitF (e ▸ hj)) L9.r
  have L10 : LS h t g2.next N g10 s7 F7 Fm7 := by
    obtain ⟨o9, hm9, mo9⟩ := L9.mo
    refine ⟨r10, ⟨o9, (hs10 _ (Ne.symm hitm)).trans hm9, mo9⟩, L9.nf, L9.most, L9.ci, L9.rel, L9.nd, wf10, fun q c e hq => ?_⟩
    have h3 := L7.kp q c e hq
    have h4 := L9.kp q c e hq
    rw [hs10 q fun e' => ?_]
    · exact h4
    · have := L7.wf.lt h3; omega
  refine (file_spec (fd := z.1) wf10 r10).mono ?_
  rintro _ g11 ⟨rfl, q11⟩
  generalize hff : (mget s7.A z.1).getD f0 = ff
  refine ⟨ff.kind, ff.proto, ff.id, ff.calm, _, rfl, ?_⟩
  rintro g12 rfl
  refine ⟨_, Hp.st_of Hp.get_alloc_self (Nat.le_of_ble_eq_true rfl), ?_⟩
  generalize hg13 : (g11.alloc _).set g11.next _ = g13
  have fr13 : g13.get g11.next = some (.row [.int .u8 ff.kind, .int .u8 ff.proto, .int .u64 ff.id, .bool ff.calm] 1 false) := by rw [← hg13]; exact Hp.get_set_self
  have q13 : Quiet g11 g13 := ⟨fun j hj => by rw [← hg13, Hp.get_set_ne (by omega), Hp.get_alloc_ne (by omega)], by rw [← hg13]; simp only [Hp.set_next, Hp.alloc_next]; omega, by rw [← hg13]; exact q11.wf.alloc.set (by simp [Hp.alloc_next])⟩
  clear hg13
  have q1013 := q11.trans q13
  have l1013 := q1013.le
  have again : (∃ done, Itr kF vU Fm7 g2.next g7.next done g13 ∧ LS h t g2.next N g13 s7 F7 Fm7 ∧ g7.next < g13.next) ∧ Fm7.length - itN g7.next g13 < Fm7.length - itN g7.next g9 := by
    obtain ⟨i5, lt5⟩ := hnx10 g13 (q1013.same _ (by have := L10.lt; omega)) (q1013.same _ (by omega))
    exact ⟨⟨_, i5, L10.quiet q1013, by omega⟩, lt5⟩
  have hrel := L7.rel z.1
  rw [mget_of L7.nd hz'] at hrel
  simp only [Option.getD_some] at hrel
  cases hm : mget s7.A z.1 with
  | none =>
    rw [hm] at hrel
    simp only [Option.map_none, Option.getD_none] at hrel
    rw [hrel]
    simp only [Option.isSome_none, bne_self_eq_false, beq_self_eq_true, Bool.not_true, cond_false]
    exact ⟨(by trivial), again.1, again.2⟩
  | some f1 =>
    rw [hm] at hrel hff
    simp only [Option.map_some, Option.getD_some] at hrel hff
    subst hff
    have hid := L7.ci.ai _ _ hm
    have b : (z.2 != 0) = true := by simp; omega
    simp only [Option.isSome_some, b, beq_self_eq_true, Bool.not_true, cond_false, cond_true]
    refine ⟨f1.id, by rw [Hp.ld_of fr13]; rfl, ?_⟩
    rw [hrel]
    simp only [bne_self_eq_false, cond_false]
    exact ⟨(by trivial), again.1, again.2⟩
end Go.Vex.CallOnce

namespace Go.Proofs.Ytibmhpkmmcgncaa.callOnce
open Go.ChangeShapes Go.WideShapes Go.ChangeAt Go.RowKit Go.Vex Go.Vex.CallOnce
open Go.ChangeMaps (open_string shut_string)

theorem own : ownKnob Try.prog.godebug = none := by kernel_rfl

set_option maxRecDepth 100000 in
theorem lifted (os : Os) (started : os.Started) (H : Type) (enc : TypeId × Value → H) :
    ReturnsInHanded {} Try.checked os 5 .any (Rows.callOnceSpec.pre6 enc Try.prog Try.f5 Rows.callOnceRow.domain false) (Rows.callOnceSpec.post enc Try.prog Try.f5 false true false false) := by
  refine returnsInHanded_of_change_sized (C := Try.checked) own started (by kernel_rfl) Try.func5
    (ChangeSpec.witness6 (enc := enc) (C := Try.checked) false ⟨#[], #[.int .u8 0, .slice none 0 0], []⟩ 8 (by kernel_rfl) (by kernel_rfl) (by kernel_rfl) (by kernel_rfl)) ?_
  intro W base args ds gs before hval0 hW hcnd hsz _
  have hval : ∀ (j : Nat) t v, Try.f5.params[j]? = some t → args[j]? = some v → Value.okWide Try.prog W .any base t v := hval0
  have hW' := hW
  obtain ⟨p, q, hA0, hV, rfl, hfz, hnd⟩ := hW
  have hA : DataW.TrodAll enc Try.prog W 0 (fun _ => true) true Try.f5.params.toList args.toList ds p := hA0
  rw [Try.params5] at hA hval hsz
  obtain ⟨v0, vs0, d0, ds0, p0, q0, hargs, rfl, rfl, h0, r0⟩ := trodAll_cons hA
  obtain ⟨v1, vs1, d1, ds1, p1, q1, rfl, rfl, rfl, h1, r1⟩ := trodAll_cons r0
  obtain ⟨rfl, rfl, rfl⟩ := trodAll_nil r1
  obtain rfl : args = #[v0, v1] := by cases args; simp_all
  obtain ⟨rfl, rfl⟩ := trodVars_none hV
  obtain ⟨a0, rfl, rfl, rfl, w0⟩ := open_int Try.underlying5 (hval 0 5 v0 rfl rfl) h0
  obtain ⟨ρ1, hp1, b1, n1, f1, rows1, s1, x1, l1, k1, vr1, ro1, sh1, z1⟩ := arg_slice tok (T := Vex.T) (t := 56) (e := 59) (d := 8) (zs := stepZ) rfl rfl rfl rfl rfl (by decide) (hval 1 56 v1 rfl rfl) h1 (fun m hm => hW'.lt m (by simp [hm])) (fun m hm => by simpa using List.all_eq_true.1 hsz m (DataW.weights_mem_each (j := 1) (t := 56) rfl rfl m hm)) (Sat.none W fun _ => ⟨0, 0, 0, 0⟩)
  refine (XCalls.true' s1 (vs := [.int .u8 a0, .slc b1 n1 f1]) ⟨_, _, rfl, rfl, ⟨_, _, rfl, vr1, rfl⟩⟩ (law_calls a0 w0 ro1 sh1 z1)).mono fun e W' ⟨he, hb⟩ => ?_
  subst he
  exact ⟨_, rfl, post_true (by kernel_rfl) hW' hb rfl (fun gs hg => by subst hg; rfl) (tb := 4) rfl Try.underlying4 (by decide +kernel)⟩

theorem over : Rows.callOnceRow.holds Try.pinned (OpenSpec.ofChange Rows.callOnceSpec) :=
  OpenClaim.holds_of_wide 5 Try.f5 rfl rfl rfl rfl rfl rfl rfl ⟨rfl, rfl, rfl, rfl, rfl⟩ rfl rfl rfl rfl rfl (by kernel_rfl) Try.func5 (by kernel_rfl)
    (of_decide_eq_true (by kernel_rfl)) (by unfold Func.isWrapper; first | (rw [if_pos (by decide +kernel)]; kernel_rfl) | (rw [if_neg (by decide +kernel)]; exact ⟨rfl, rfl⟩))
    (fun os started H enc _ => lifted os started H enc)

theorem proved : Rows.CallOnceSaid :=
  over
#print axioms proved
end Go.Proofs.Ytibmhpkmmcgncaa.callOnce

