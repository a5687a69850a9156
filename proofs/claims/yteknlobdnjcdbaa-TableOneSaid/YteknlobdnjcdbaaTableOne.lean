/-
  TableOne of layer 23: whatever the script, the law returns true and leaves the input as it was. No condition.
-/
import Derived.Test.YteknlobdnjcdbaaVexEE
import Derived.Test.YteknlobdnjcdbaaVexFF
import Derived.Test.YteknlobdnjcdbaaVexGG
import Derived.Test.YteknlobdnjcdbaaTab23
import Derived.Test.YteknlobdnjcdbaaXa23
import Derived.Test.YteknlobdnjcdbaaCa23
import Derived.Test.YteknlobdnjcdbaaCb23
import Derived.Test.YteknlobdnjcdbaaCc23
import Derived.Test.YteknlobdnjcdbaaCd23
import Derived.Test.YteknlobdnjcdbaaXb23
import Derived.Test.YteknlobdnjcdbaaCe23
import Derived.Test.YteknlobdnjcdbaaCf23
import Derived.Test.YteknlobdnjcdbaaXs23
import Derived.Test.YteknlobdnjcdbaaXk23
import Derived.Test.YteknlobdnjcdbaaCsa23
import Derived.Test.YteknlobdnjcdbaaCsb23
import Derived.Test.YteknlobdnjcdbaaCsc23
import Derived.Test.YteknlobdnjcdbaaCsd23
import Derived.Test.YteknlobdnjcdbaaCse23
import Derived.Test.YteknlobdnjcdbaaCg23
import Derived.Test.YteknlobdnjcdbaaCi23
import Derived.Test.YteknlobdnjcdbaaCk23
import Derived.Test.YteknlobdnjcdbaaXe23
import Derived.Test.YteknlobdnjcdbaaRows
import Derived.WalkKit
import Derived.ProofKit
import Derived.OpenShut
import Derived.KernelRfl
set_option linter.unusedVariables false
set_option linter.unusedSimpArgs false
namespace Go.Vex.TableOne
open Go.Proofs Go.Vex.Tbl

def stepZ : List V := [.int .i64 0, .int .u32 0, .int .u16 0, .int .u32 0, .int .u16 0, .int .u32 0, .int .u16 0, .int .u64 0, .int .u64 0, .int .u32 0, .int .i64 0]

theorem step_form {r : List V} (h : shpBs stepZ r = true) : ∃ d a b c e ai ap w o hs n, r = [.int .i64 d, .int .u32 a, .int .u16 b, .int .u32 c, .int .u16 e, .int .u32 ai, .int .u16 ap, .int .u64 w, .int .u64 o, .int .u32 hs, .int .i64 n] :=
  allSs_spec stepZ r (k := fun r => ∃ d a b c e ai ap w o hs n, r = [.int .i64 d, .int .u32 a, .int .u16 b, .int .u32 c, .int .u16 e, .int .u32 ai, .int .u16 ap, .int .u64 w, .int .u64 o, .int .u32 hs, .int .i64 n]) (fun d a b c e ai ap w o hs n => ⟨d, a, b, c, e, ai, ap, w, o, hs, n, rfl⟩) h

abbrev kI : Int → V := fun n => .int .i64 n

theorem mtC : MT T 26 Pr.v (kU 0) := ⟨(T 26).get rfl, 33, 34, (T 34).get rfl, rfl, rfl, rfl, rfl, klP⟩
theorem mtR : MT T 27 Pr.v (kI 0) := ⟨(T 27).get rfl, 33, 2, (T 2).get rfl, rfl, rfl, rfl, rfl, klP⟩

def prow (p : Pr) : List V := [.int .u32 p.a, .int .u16 p.b, .int .u32 p.c, .int .u16 p.d]
def pRows (l : List Pr) : List (List V) := l.map prow

theorem t42 : ∃ ti ei, T 42 = some ti ∧ ti.d = .slc 33 ∧ T 33 = some ei ∧ ei.size = 4 ∧ ei.bytes ≤ 64 ∧ zok ei = true := ⟨_, _, rfl, rfl, rfl, rfl, by decide, rfl⟩

theorem app42 {n : Nat} {a : Option (Nat × Nat)} {f : Bool} {rows : List (List V)} {g : Hp} {G : List Nat} {c : List V} (hc : c.length = 4) (ho : Own 4 a n rows g G) (hw : g.wf) (hl : n ≤ 100000000) : ∃ h', xapp T (g.alloc (.row c 4 false)) 42 42 (.slc a n f) (.slc (some (g.next, 0)) 1 true) = some (.slc (some (g.next + 1, 0)) (n + 1) false, h') ∧
      Own 4 (some (g.next + 1, 0)) (n + 1) (rows ++ [c]) h' [g.next + 1] ∧ (∀ j, j < g.next → j ∉ G → h'.get j = g.get j) ∧ g.next ≤ h'.next ∧ h'.wf := by
  obtain ⟨ti, ei, ht, hd, he, hs, hb, hz⟩ := t42
  have q := Quiet.alloc hw (.row c 4 false)
  have ho' := (Own.rep _ _ _ _).stay hw ho q.same
  have hcc : (g.alloc (.row c 4 false)).get g.next = some (.row c 4 false) := Hp.get_alloc_self
  have hud : ∀ k, ti.d ≠ .int k := fun k e => by rw [hd] at e; cases e
  have hmul : (n + 1) * ei.bytes ≤ 100000001 * 64 := Nat.mul_le_mul (by omega) hb
  obtain ⟨h', hx, ho2, u, wf⟩ := ho'.app (f := f) q.wf ht hd ht hud he hs (by omega) hz (news := [c]) (xnews_one hcc hc) (by simp [hc]) (by simp) (by simp only [List.length_singleton]; omega) (by simp; omega)
  have hnx : (g.alloc (.row c 4 false)).next = g.next + 1 := Hp.alloc_next _ _
  rw [hnx] at hx ho2
  refine ⟨h', hx, ho2, fun j hj hG => ?_, ?_, wf⟩
  · rw [u.same j (by omega) hG]; exact q.same j hj
  · have := u.le; omega

/-- the law's heap: the table, the two maps, what the caller gave -/
structure HJ (h0 : Hp) (t m1 m2 : Nat) (F : List Nat) (S : TS) (C R : List (Pr × Int)) (g : Hp) : Prop where
  tab : TabR t S g F
  cm : ∃ o, g.get m1 = some o ∧ MO Pr.v kU C o
  rm : ∃ o, g.get m2 = some o ∧ MO Pr.v kI R o
  same : ∀ j, j < h0.next → g.get j = h0.get j
  wf : g.wf
  n1 : m1 ∉ F
  n2 : m2 ∉ F
  n12 : m1 ≠ m2
  lo : ∀ j ∈ F, h0.next ≤ j
  l1 : h0.next ≤ m1
  l2 : h0.next ≤ m2

section
variable {h0 : Hp} {t m1 m2 : Nat} {F : List Nat} {S S' : TS} {C R C' R' : List (Pr × Int)} {g g' : Hp}

theorem HJ.lt1 (j : HJ h0 t m1 m2 F S C R g) : m1 < g.next := by obtain ⟨o, ho, _⟩ := j.cm; exact j.wf m1 o ho
theorem HJ.lt2 (j : HJ h0 t m1 m2 F S C R g) : m2 < g.next := by obtain ⟨o, ho, _⟩ := j.rm; exact j.wf m2 o ho
theorem HJ.ltF (j : HJ h0 t m1 m2 F S C R g) : ∀ x ∈ F, x < g.next := fun x hx => (TabR.rep _ _).lt j.wf j.tab hx
theorem HJ.keeps (j : HJ h0 t m1 m2 F S C R g) (hw : h0.wf) : h0.keeps g := fun x c e hq => by rw [j.same x (hw.lt hq)]; exact hq

theorem HJ.upd (j : HJ h0 t m1 m2 F S C R g) (hn : h0.next ≤ g.next) (r : TabR t S' g' F) (u : Upd g g' F F) (w : g'.wf) : HJ h0 t m1 m2 F S' C R g' :=
  ⟨r, by obtain ⟨o, ho, hm⟩ := j.cm; exact ⟨o, by rw [u.same m1 j.lt1 j.n1]; exact ho, hm⟩, by obtain ⟨o, ho, hm⟩ := j.rm; exact ⟨o, by rw [u.same m2 j.lt2 j.n2]; exact ho, hm⟩, fun x hx => by
    rw [u.same x (by omega) (fun hF => by have := j.lo x hF; omega)]; exact j.same x hx, w, j.n1, j.n2, j.n12, j.lo, j.l1, j.l2⟩

theorem HJ.stay (j : HJ h0 t m1 m2 F S C R g) (hn : h0.next ≤ g.next) (hs : ∀ x, x < g.next → g'.get x = g.get x) (w : g'.wf) : HJ h0 t m1 m2 F S C R g' :=
  ⟨(TabR.rep _ _).stay j.wf j.tab hs, by obtain ⟨o, ho, hm⟩ := j.cm; exact ⟨o, by rw [hs m1 j.lt1]; exact ho, hm⟩, by obtain ⟨o, ho, hm⟩ := j.rm; exact ⟨o, by rw [hs m2 j.lt2]; exact ho, hm⟩, fun x hx => by
    rw [hs x (by omega)]; exact j.same x hx, w, j.n1, j.n2, j.n12, j.lo, j.l1, j.l2⟩

theorem HJ.next (j : HJ h0 t m1 m2 F S C R g) : h0.next ≤ g.next := by have := j.l1; have := j.lt1; omega

theorem HJ.cput (j : HJ h0 t m1 m2 F S C R g) (p : Pr) (v : Int) : ∃ g', xput T g 26 (.map (some m1)) p.v (.int .u64 v) = some g' ∧ HJ h0 t m1 m2 F S (mput C p v) R g' ∧ g'.next = g.next ∧ ∀ x, x ≠ m1 → g'.get x = g.get x := by
  obtain ⟨o, ho, hm⟩ := j.cm
  obtain ⟨o', hm', hx⟩ := hm.put mtC p v
  have hs : ∀ x, x ≠ m1 → (g.set m1 o').get x = g.get x := fun x hx => Hp.get_set_ne hx
  refine ⟨_, hx g m1 ho, ⟨(TabR.rep _ _).loc _ _ _ (fun x hx => hs x (fun e => j.n1 (e ▸ hx))) j.tab, ⟨o', Hp.get_set_self, hm'⟩, ?_, fun x hx => by rw [hs x (by have := j.l1; omega)]; exact j.same x hx, j.wf.set j.lt1, j.n1, j.n2, j.n12, j.lo, j.l1, j.l2⟩, rfl, hs⟩
  obtain ⟨o2, ho2, hm2⟩ := j.rm
  exact ⟨o2, by rw [hs m2 (Ne.symm j.n12)]; exact ho2, hm2⟩

theorem HJ.rput (j : HJ h0 t m1 m2 F S C R g) (p : Pr) (v : Int) : ∃ g', xput T g 27 (.map (some m2)) p.v (.int .i64 v) = some g' ∧ HJ h0 t m1 m2 F S C (mput R p v) g' ∧ g'.next = g.next ∧ ∀ x, x ≠ m2 → g'.get x = g.get x := by
  obtain ⟨o, ho, hm⟩ := j.rm
  obtain ⟨o', hm', hx⟩ := hm.put mtR p v
  have hs : ∀ x, x ≠ m2 → (g.set m2 o').get x = g.get x := fun x hx => Hp.get_set_ne hx
  refine ⟨_, hx g m2 ho, ⟨(TabR.rep _ _).loc _ _ _ (fun x hx => hs x (fun e => j.n2 (e ▸ hx))) j.tab, ?_, ⟨o', Hp.get_set_self, hm'⟩, fun x hx => by rw [hs x (by have := j.l2; omega)]; exact j.same x hx, j.wf.set j.lt2, j.n1, j.n2, j.n12, j.lo, j.l1, j.l2⟩, rfl, hs⟩
  obtain ⟨o2, ho2, hm2⟩ := j.cm
  exact ⟨o2, by rw [hs m1 j.n12]; exact ho2, hm2⟩

theorem HJ.rdel (j : HJ h0 t m1 m2 F S C R g) (p : Pr) : ∃ g', xdel T g 27 (.map (some m2)) p.v = some g' ∧ HJ h0 t m1 m2 F S C (mdel R p) g' ∧ g'.next = g.next ∧ ∀ x, x ≠ m2 → g'.get x = g.get x := by
  obtain ⟨o, ho, hm⟩ := j.rm
  obtain ⟨o', hm', hx⟩ := hm.del mtR p
  have hs : ∀ x, x ≠ m2 → (g.set m2 o').get x = g.get x := fun x hx => Hp.get_set_ne hx
  refine ⟨_, hx g m2 ho, ⟨(TabR.rep _ _).loc _ _ _ (fun x hx => hs x (fun e => j.n2 (e ▸ hx))) j.tab, ?_, ⟨o', Hp.get_set_self, hm'⟩, fun x hx => by rw [hs x (by have := j.l2; omega)]; exact j.same x hx, j.wf.set j.lt2, j.n1, j.n2, j.n12, j.lo, j.l1, j.l2⟩, rfl, hs⟩
  obtain ⟨o2, ho2, hm2⟩ := j.cm
  exact ⟨o2, by rw [hs m1 j.n12]; exact ho2, hm2⟩

theorem HJ.cget (j : HJ h0 t m1 m2 F S C R g) (p : Pr) : xlook T g 26 (.map (some m1)) p.v false = some (.int .u64 ((mget C p).getD 0)) := by
  obtain ⟨o, ho, hm⟩ := j.cm
  rw [hm.look mtC p g m1 ho, lookV_getD]
theorem HJ.rget (j : HJ h0 t m1 m2 F S C R g) (p : Pr) : xlook T g 27 (.map (some m2)) p.v true = some (.tup [.int .i64 ((mget R p).getD 0), .bool (mget R p).isSome]) := by
  obtain ⟨o, ho, hm⟩ := j.rm
  rw [hm.look2 mtR p g m2 ho, lookV_getD]
end

theorem putF_ok {S : TS} {p : Pr} {w : Int} (h : (putF S p w).1 = 0) : w ≠ 0 ∧ Tbl.look S p = none ∧ putF S p w = (0, { S.put p (w, 0) with conns := IntKind.i64.wrap (S.conns + 1) }) := by
  unfold putF at h ⊢
  by_cases h1 : w = 0
  · rw [if_pos h1] at h; cases h
  rw [if_neg h1] at h ⊢
  by_cases h2 : (Tbl.look S p).isSome = true
  · rw [if_pos h2] at h; cases h
  rw [if_neg h2] at h ⊢
  by_cases h3 : ¬ S.conns < 1024
  · rw [if_pos h3] at h; cases h
  rw [if_neg h3]
  exact ⟨h1, by simpa using h2, rfl⟩
theorem putF_no {S : TS} {p : Pr} {w : Int} (h : (putF S p w).1 ≠ 0) : (putF S p w).2 = S := by
  unfold putF at h ⊢
  by_cases h1 : w = 0
  · rw [if_pos h1]
  rw [if_neg h1] at h ⊢
  by_cases h2 : (Tbl.look S p).isSome = true
  · rw [if_pos h2]
  rw [if_neg h2] at h ⊢
  by_cases h3 : ¬ S.conns < 1024
  · rw [if_pos h3]
  rw [if_neg h3] at h
  exact absurd rfl h

theorem restF_no {S : TS} {p : Pr} {u : Int} (h : (restF S p u).1 ≠ 0) : (restF S p u).2 = S := by
  unfold restF at h ⊢
  by_cases h1 : ((Tbl.look S p).isSome && ((Tbl.look S p).getD (0, 0)).1 == 0) = true
  · rw [if_pos h1] at h; exact absurd rfl h
  rw [if_neg h1] at h ⊢
  by_cases h2 : ¬ S.rests < 1024
  · rw [if_pos h2]
  rw [if_neg h2] at h
  split at h <;> exact absurd rfl h

/-- what Rest leaves: up to when it rests -/
theorem restF_ok {S : TS} {C R : List (Pr × Int)} {k : Nat} (s : One S C R k) (hk : k ≤ 300) {p : Pr} {u : Int} (h : (restF S p u).1 = 0) :
    One (restF S p u).2 (mput C p 0) (mput R p (if (mget R p).isSome = true then (if (mget R p).getD 0 < u then u else (mget R p).getD 0) else u)) (k + 1) := by
  have hp : ∀ (S' : TS) (v : Int), S'.ms = (S.put p (0, v)).ms → S'.ears = S.ears → (S'.rests = S.rests ∨ S'.rests = S.rests + 1) → v = (if (mget R p).isSome = true then (if (mget R p).getD 0 < u then u else (mget R p).getD 0) else u) → One S' (mput C p 0) (mput R p (if (mget R p).isSome = true then (if (mget R p).getD 0 < u then u else (mget R p).getD 0) else u)) (k + 1) := by
    intro S' v hm he hr hv
    rw [← hv]
    exact s.put (p := p) (e := (0, v)) (Int.le_refl _) hm he hr (fun q => by rw [mget_mput]; rfl) (mput_nodup s.rn _ _) (by have := mput_len R p v; have := s.rl; omega)
  have hrs := s.rs
  have wr1 : IntKind.i64.wrap (S.rests + 1) = S.rests + 1 := wr (by omega) (by omega)
  unfold restF at h ⊢
  by_cases h1 : ((Tbl.look S p).isSome && ((Tbl.look S p).getD (0, 0)).1 == 0) = true
  · rw [if_pos h1]
    obtain ⟨x, hx⟩ : ∃ x, Tbl.look S p = some x := Option.isSome_iff_exists.1 (by simp at h1; exact h1.1)
    rw [hx] at h1 ⊢
    have h0 : x.1 = 0 := by simpa using h1
    have hR := (s.some hx).2.2
    rw [if_pos h0] at hR
    refine hp _ _ rfl rfl (.inl rfl) ?_
    rw [hR]
    simp only [Option.isSome_some, if_true, Option.getD_some]
    by_cases c1 : u < x.2
    · rw [if_pos c1, if_neg (by omega)]
    · rw [if_neg c1]; split <;> omega
  rw [if_neg h1] at h ⊢
  have hR : mget R p = none := by
    cases hx : Tbl.look S p with
    | none => exact (s.none hx).2
    | some x =>
      rw [(s.some hx).2.2]
      rw [hx] at h1
      have h0 : x.1 ≠ 0 := by simpa using h1
      rw [if_neg h0]
  by_cases h2 : ¬ S.rests < 1024
  · rw [if_pos h2] at h; cases h
  rw [if_neg h2]
  have hv : u = (if (mget R p).isSome = true then (if (mget R p).getD 0 < u then u else (mget R p).getD 0) else u) := by rw [hR]; rfl
  by_cases h3 : (Tbl.look S p).isSome = true
  · rw [if_pos h3]; exact hp _ u rfl rfl (.inr wr1) hv
  · rw [if_neg h3]; exact hp _ u rfl rfl (.inr wr1) hv

/-- those whose time is over, out of the entries that came -/
def olds (now : Int) (l : List (Pr × Int)) : List Pr := (l.filter fun z => decide (z.2 ≤ now)).map Prod.fst

theorem olds_get {R done : List (Pr × Int)} {now : Int} (hn : (R.map Prod.fst).Nodup) (hp : done.Perm R) (q : Pr) : mget (dels R (olds now done)) q = match mget R q with
    | some u => if u ≤ now then none else some u
    | none => none := by
  rw [dels_get _ hn]
  have hm : q ∈ olds now done ↔ ∃ u, mget R q = some u ∧ u ≤ now := by
    unfold olds
    rw [List.mem_map]
    constructor
    · rintro ⟨z, hz, rfl⟩
      rw [List.mem_filter] at hz
      exact ⟨z.2, mget_of hn (hp.subset hz.1), by simpa using hz.2⟩
    · rintro ⟨u, hu, hle⟩
      exact ⟨(q, u), List.mem_filter.2 ⟨hp.symm.subset (mget_in hu), by simpa using hle⟩, rfl⟩
  cases hg : mget R q with
  | none => rw [if_neg (fun h => by obtain ⟨u, hu, _⟩ := hm.1 h; rw [hg] at hu; cases hu)]
  | some u =>
    by_cases hle : u ≤ now
    · rw [if_pos (hm.2 ⟨u, hg, hle⟩)]; simp only [if_pos hle]
    · rw [if_neg (fun h => by obtain ⟨u', hu, h2⟩ := hm.1 h; rw [hg] at hu; cases hu; exact hle h2)]; simp only [if_neg hle]

set_option maxRecDepth 20000 in
theorem law_calls {h : Hp} {a : Option (Nat × Nat)} {n : Nat} {f : Bool} {rows : List (List V)} (ha : RoSlc h a n rows 11)
    (hr0 : ∀ r ∈ rows, shpBs stepZ r = true ∧ ∀ v ∈ r, v.fits) (hbz : n * Try.prog.bytesOf 36 ≤ reachBytes) :
    XCalls Try.prog 3 [.slc a n f] h fun v _ => v = .bool true := by
  have hr : ∀ r ∈ rows, shpBs stepZ r = true := fun r h => (hr0 r h).1
  have hz : ∀ r ∈ rows, r.length = 11 := fun r h => shpBs_length (hr r h)
  refine XCalls.ofWf fun hw => ?_
  refine XCalls.cps fun K hK => ?_
  have KT : ∀ h', K (.bool true) h' := fun h' => hK _ _ rfl
  apply x3; unfold X3
  cases c0 : ltI 300 (↑n) with
  | true => exact works_spec fun _ => ⟨_, rfl, KT _⟩
  | false =>
  rw [ltI_eq, decide_eq_false_iff_not] at c0
  simp only [cond_false]
  refine (new_spec hw).mono ?_
  rintro _ g1 ⟨rfl, F, r1, q1, hF⟩
  refine ⟨_, rfl, ?_⟩
  rintro g2 rfl g3 rfl
  have qa := Quiet.alloc q1.wf (.map [] 0)
  have ga : (g1.alloc (.map [] 0)).get g1.next = some (.map [] 0) := Hp.get_alloc_self
  have na : (g1.alloc (.map [] 0)).next = g1.next + 1 := Hp.alloc_next _ _
  generalize g1.alloc (.map [] 0) = g2 at *
  have qb := Quiet.alloc qa.wf (.map [] 0)
  have gb : (g2.alloc (.map [] 0)).get g2.next = some (.map [] 0) := Hp.get_alloc_self
  have nb : (g2.alloc (.map [] 0)).next = g2.next + 1 := Hp.alloc_next _ _
  generalize g2.alloc (.map [] 0) = g3 at *
  have hFl := r1.lt q1.wf
  have q1l := q1.le
  have j0 : HJ h (h.next + 1) g1.next g2.next F newS [] [] g3 :=
    ⟨r1.quiet q1.wf (qa.trans qb), ⟨_, by rw [qb.same _ (by omega)]; exact ga, MO.nil _ _⟩, ⟨_, gb, MO.nil _ _⟩, fun j hj => by rw [qb.same _ (by omega), qa.same _ (by omega), q1.same _ hj], qb.wf, fun hh => by have := hFl _ hh; omega, fun hh => by have := hFl _ hh; omega, by omega, hF, by omega, by omega⟩
  generalize h.next + 1 = t at *
  generalize g1.next = m1 at *
  generalize g2.next = m2 at *
  clear qa qb ga gb na nb r1 q1 hFl q1l
  refine ⟨fun vs g => match vs with
    | [.int _ i] => ∃ (k : Nat) (S : TS) (C R : List (Pr × Int)), i = k ∧ k ≤ n ∧ HJ h t m1 m2 F S C R g ∧ One S C R k
    | _ => False, fun vs _ => match vs with
    | [.int _ i] => n - i.toNat
    | _ => 0, ⟨by trivial, 0, newS, [], [], rfl, by omega, j0, One.start⟩, ?_⟩
  clear j0
  rintro bs i g ⟨k, S, C, R, rfl, hkn, j, s⟩
  cases hi : ltI (↑k) (↑n) with
  | false => exact works_spec fun _ => ⟨true, rfl, KT _⟩
  | true =>
  rw [ltI_eq, decide_eq_true_eq] at hi
  have hkn' : k < n := by omega
  have hk300 : k ≤ 300 := by omega
  obtain ⟨qa, row, rfl, hrow, hld, hlda⟩ := ha.ld (j.keeps hw) hkn' hz
  obtain ⟨d, pa, pb, pc, pd, ai, ap, w, ow, hs, now, rfl⟩ := step_form (hr row (List.mem_of_getElem? hrow))
  have hfit := (hr0 _ (List.mem_of_getElem? hrow)).2
  have hw1 : IntKind.i64.wrap ((k : Int) + 1) = ((k + 1 : Nat) : Int) := by rw [wr (by omega) (by omega)]; rfl
  have hhs : 0 ≤ hs ∧ hs < 4294967296 := by
    have := hfit (.int .u32 hs) (by simp)
    simp [V.fits, IntKind.min, IntKind.max, IntKind.signed, IntKind.bits] at this
    omega
  have hwho : 0 ≤ w := by
    have := hfit (.int .u64 w) (by simp)
    simp [V.fits, IntKind.min, IntKind.max, IntKind.signed, IntKind.bits] at this
    omega
  clear hfit hld
  refine ⟨⟨by omega, hi⟩, d, pa, pb, pc, pd, ai, ap, w, ow, hs, now, hlda, ?_⟩
  rintro g5 rfl
  refine ⟨_, Hp.st_of Hp.get_alloc_self (Nat.le_of_ble_eq_true rfl), ?_⟩
  obtain ⟨g6, hg6⟩ : ∃ g6, g6 = (g.alloc (.row [.int .i64 0, .int .u32 0, .int .u16 0, .int .u32 0, .int .u16 0, .int .u32 0, .int .u16 0, .int .u64 0, .int .u64 0, .int .u32 0, .int .i64 0] 1 false)).set g.next (.row (splice [.int .i64 0, .int .u32 0, .int .u16 0, .int .u32 0, .int .u16 0, .int .u32 0, .int .u16 0, .int .u64 0, .int .u64 0, .int .u32 0, .int .i64 0] 0 [.int .i64 d, .int .u32 pa, .int .u16 pb, .int .u32 pc, .int .u16 pd, .int .u32 ai, .int .u16 ap, .int .u64 w, .int .u64 ow, .int .u32 hs, .int .i64 now]) 1 false) := ⟨_, rfl⟩
  rw [← hg6]
  obtain ⟨sh, hsh⟩ : ∃ sh, sh = [V.int .i64 d, .int .u32 pa, .int .u16 pb, .int .u32 pc, .int .u16 pd, .int .u32 ai, .int .u16 ap, .int .u64 w, .int .u64 ow, .int .u32 hs, .int .i64 now] := ⟨_, rfl⟩
  have c6 : g6.get g.next = some (.row sh 1 false) := by rw [hg6, Hp.get_set_self, hsh]; rfl
  have q6 : Quiet g g6 := by rw [hg6]; exact ⟨fun j hj => by simp (disch := (first | omega | (simp only [Hp.alloc_next, Hp.set_next] <;> omega) | (simp (disch := (first | omega | (simp only [Hp.alloc_next, Hp.set_next] <;> omega) | fail)) only [Hp.get_set_self, Hp.get_set_ne, Hp.get_alloc_self, Hp.get_alloc_ne, Hp.get_alloc_at, Hp.get_set_at, Hp.set_next, Hp.alloc_next]; done) | fail)) only [Hp.st, Hp.ld, Hp.lda, splice, ble_eq', if_true, if_false, ite_true, ite_false, cond_true, cond_false, decide_true, decide_false, List.length_cons, List.length_nil, List.take_zero, List.take_succ_cons, List.nil_append, List.cons_append, List.append_nil, List.drop_succ_cons, List.drop_zero, List.drop_nil, List.getElem?_cons_succ, List.getElem?_cons_zero, Nat.reduceAdd, Nat.reduceLeDiff, Nat.reduceEqDiff, Nat.zero_add, Nat.add_zero, Nat.le_refl, Nat.zero_le, Nat.succ_ne_self, Nat.mul_one, Int.toNat_natCast, Option.some.injEq, Option.isNone_some, Option.isNone_none, V.int.injEq, V.str.injEq, V.bool.injEq, V.ptr.injEq, V.slc.injEq, V.map.injEq, V.agg.injEq, V.tup.injEq, List.cons.injEq, Prod.mk.injEq, onS, true_and, and_true, and_assoc, exists_and_left, exists_eq_left', forall_eq, heq_eq_eq, reduceCtorEq, Bool.not_true, Bool.not_false, eq_self, not_false_eq_true, Nat.left_eq_add, Nat.add_eq_left, Nat.add_left_cancel_iff, Nat.add_right_cancel_iff, Nat.reduceEqDiff, Nat.one_ne_zero, Hp.get_set_self, Hp.get_set_ne, Hp.get_alloc_self, Hp.get_alloc_ne, Hp.get_alloc_at, Hp.get_set_at, Hp.set_next, Hp.alloc_next, Option.some_ne_none, V.tup.injEq, Option.isSome_some, Option.isSome_none, exists_eq_left, exists_eq, Nat.mul_zero], by simp (disch := (first | omega | (simp only [Hp.alloc_next, Hp.set_next] <;> omega) | (simp (disch := (first | omega | (simp only [Hp.alloc_next, Hp.set_next] <;> omega) | fail)) only [Hp.get_set_self, Hp.get_set_ne, Hp.get_alloc_self, Hp.get_alloc_ne, Hp.get_alloc_at, Hp.get_set_at, Hp.set_next, Hp.alloc_next]; done) | fail)) only [Hp.st, Hp.ld, Hp.lda, splice, ble_eq', if_true, if_false, ite_true, ite_false, cond_true, cond_false, decide_true, decide_false, List.length_cons, List.length_nil, List.take_zero, List.take_succ_cons, List.nil_append, List.cons_append, List.append_nil, List.drop_succ_cons, List.drop_zero, List.drop_nil, List.getElem?_cons_succ, List.getElem?_cons_zero, Nat.reduceAdd, Nat.reduceLeDiff, Nat.reduceEqDiff, Nat.zero_add, Nat.add_zero, Nat.le_refl, Nat.zero_le, Nat.succ_ne_self, Nat.mul_one, Int.toNat_natCast, Option.some.injEq, Option.isNone_some, Option.isNone_none, V.int.injEq, V.str.injEq, V.bool.injEq, V.ptr.injEq, V.slc.injEq, V.map.injEq, V.agg.injEq, V.tup.injEq, List.cons.injEq, Prod.mk.injEq, onS, true_and, and_true, and_assoc, exists_and_left, exists_eq_left', forall_eq, heq_eq_eq, reduceCtorEq, Bool.not_true, Bool.not_false, eq_self, not_false_eq_true, Nat.left_eq_add, Nat.add_eq_left, Nat.add_left_cancel_iff, Nat.add_right_cancel_iff, Nat.reduceEqDiff, Nat.one_ne_zero, Hp.get_set_self, Hp.get_set_ne, Hp.get_alloc_self, Hp.get_alloc_ne, Hp.get_alloc_at, Hp.get_set_at, Hp.set_next, Hp.alloc_next, Option.some_ne_none, V.tup.injEq, Option.isSome_some, Option.isSome_none, exists_eq_left, exists_eq, Nat.mul_zero]; omega, j.wf.alloc.set (Nat.lt_succ_self _)⟩
  clear hg6
  have j6 := j.stay j.next q6.same q6.wf
  have hc1 : g.next ≠ m1 := by have := j.lt1; omega
  have hc2 : g.next ≠ m2 := by have := j.lt2; omega
  have hcF : g.next ∉ F := fun hh => by have := j.ltF _ hh; omega
  have hcl : g.next < g6.next := q6.wf _ _ c6
  have hch : h.next ≤ g.next := j.next
  generalize g.next = c at *
  -- what stands in the step's own copy
  have rd : ∀ {g' : Hp}, g'.get c = some (.row sh 1 false) → g'.lda c 1 4 = some (Pr.v ⟨pa, pb, pc, pd⟩) ∧ g'.lda c 5 2 = some (adV ⟨ai, ap⟩) ∧ g'.ld c 0 = some (.int .i64 d) ∧ g'.ld c 7 = some (.int .u64 w) ∧ g'.ld c 9 = some (.int .u32 hs) ∧ g'.ld c 10 = some (.int .i64 now) := fun {g'} hc => by
    subst hsh
    exact ⟨by simp (disch := (first | omega | (simp only [Hp.alloc_next, Hp.set_next] <;> omega) | (simp (disch := (first | omega | (simp only [Hp.alloc_next, Hp.set_next] <;> omega) | fail)) only [Hp.get_set_self, Hp.get_set_ne, Hp.get_alloc_self, Hp.get_alloc_ne, Hp.get_alloc_at, Hp.get_set_at, Hp.set_next, Hp.alloc_next, hc]; done) | fail)) only [Hp.st, Hp.ld, Hp.lda, splice, ble_eq', if_true, if_false, ite_true, ite_false, cond_true, cond_false, decide_true, decide_false, List.length_cons, List.length_nil, List.take_zero, List.take_succ_cons, List.nil_append, List.cons_append, List.append_nil, List.drop_succ_cons, List.drop_zero, List.drop_nil, List.getElem?_cons_succ, List.getElem?_cons_zero, Nat.reduceAdd, Nat.reduceLeDiff, Nat.reduceEqDiff, Nat.zero_add, Nat.add_zero, Nat.le_refl, Nat.zero_le, Nat.succ_ne_self, Nat.mul_one, Int.toNat_natCast, Option.some.injEq, Option.isNone_some, Option.isNone_none, V.int.injEq, V.str.injEq, V.bool.injEq, V.ptr.injEq, V.slc.injEq, V.map.injEq, V.agg.injEq, V.tup.injEq, List.cons.injEq, Prod.mk.injEq, onS, true_and, and_true, and_assoc, exists_and_left, exists_eq_left', forall_eq, heq_eq_eq, reduceCtorEq, Bool.not_true, Bool.not_false, eq_self, not_false_eq_true, Nat.left_eq_add, Nat.add_eq_left, Nat.add_left_cancel_iff, Nat.add_right_cancel_iff, Nat.reduceEqDiff, Nat.one_ne_zero, Hp.get_set_self, Hp.get_set_ne, Hp.get_alloc_self, Hp.get_alloc_ne, Hp.get_alloc_at, Hp.get_set_at, Hp.set_next, Hp.alloc_next, Option.some_ne_none, V.tup.injEq, Option.isSome_some, Option.isSome_none, exists_eq_left, exists_eq, Nat.mul_zero, hc]; rfl, by simp (disch := (first | omega | (simp only [Hp.alloc_next, Hp.set_next] <;> omega) | (simp (disch := (first | omega | (simp only [Hp.alloc_next, Hp.set_next] <;> omega) | fail)) only [Hp.get_set_self, Hp.get_set_ne, Hp.get_alloc_self, Hp.get_alloc_ne, Hp.get_alloc_at, Hp.get_set_at, Hp.set_next, Hp.alloc_next, hc]; done) | fail)) only [Hp.st, Hp.ld, Hp.lda, splice, ble_eq', if_true, if_false, ite_true, ite_false, cond_true, cond_false, decide_true, decide_false, List.length_cons, List.length_nil, List.take_zero, List.take_succ_cons, List.nil_append, List.cons_append, List.append_nil, List.drop_succ_cons, List.drop_zero, List.drop_nil, List.getElem?_cons_succ, List.getElem?_cons_zero, Nat.reduceAdd, Nat.reduceLeDiff, Nat.reduceEqDiff, Nat.zero_add, Nat.add_zero, Nat.le_refl, Nat.zero_le, Nat.succ_ne_self, Nat.mul_one, Int.toNat_natCast, Option.some.injEq, Option.isNone_some, Option.isNone_none, V.int.injEq, V.str.injEq, V.bool.injEq, V.ptr.injEq, V.slc.injEq, V.map.injEq, V.agg.injEq, V.tup.injEq, List.cons.injEq, Prod.mk.injEq, onS, true_and, and_true, and_assoc, exists_and_left, exists_eq_left', forall_eq, heq_eq_eq, reduceCtorEq, Bool.not_true, Bool.not_false, eq_self, not_false_eq_true, Nat.left_eq_add, Nat.add_eq_left, Nat.add_left_cancel_iff, Nat.add_right_cancel_iff, Nat.reduceEqDiff, Nat.one_ne_zero, Hp.get_set_self, Hp.get_set_ne, Hp.get_alloc_self, Hp.get_alloc_ne, Hp.get_alloc_at, Hp.get_set_at, Hp.set_next, Hp.alloc_next, Option.some_ne_none, V.tup.injEq, Option.isSome_some, Option.isSome_none, exists_eq_left, exists_eq, Nat.mul_zero, hc]; rfl, by simp (disch := (first | omega | (simp only [Hp.alloc_next, Hp.set_next] <;> omega) | (simp (disch := (first | omega | (simp only [Hp.alloc_next, Hp.set_next] <;> omega) | fail)) only [Hp.get_set_self, Hp.get_set_ne, Hp.get_alloc_self, Hp.get_alloc_ne, Hp.get_alloc_at, Hp.get_set_at, Hp.set_next, Hp.alloc_next, hc]; done) | fail)) only [Hp.st, Hp.ld, Hp.lda, splice, ble_eq', if_true, if_false, ite_true, ite_false, cond_true, cond_false, decide_true, decide_false, List.length_cons, List.length_nil, List.take_zero, List.take_succ_cons, List.nil_append, List.cons_append, List.append_nil, List.drop_succ_cons, List.drop_zero, List.drop_nil, List.getElem?_cons_succ, List.getElem?_cons_zero, Nat.reduceAdd, Nat.reduceLeDiff, Nat.reduceEqDiff, Nat.zero_add, Nat.add_zero, Nat.le_refl, Nat.zero_le, Nat.succ_ne_self, Nat.mul_one, Int.toNat_natCast, Option.some.injEq, Option.isNone_some, Option.isNone_none, V.int.injEq, V.str.injEq, V.bool.injEq, V.ptr.injEq, V.slc.injEq, V.map.injEq, V.agg.injEq, V.tup.injEq, List.cons.injEq, Prod.mk.injEq, onS, true_and, and_true, and_assoc, exists_and_left, exists_eq_left', forall_eq, heq_eq_eq, reduceCtorEq, Bool.not_true, Bool.not_false, eq_self, not_false_eq_true, Nat.left_eq_add, Nat.add_eq_left, Nat.add_left_cancel_iff, Nat.add_right_cancel_iff, Nat.reduceEqDiff, Nat.one_ne_zero, Hp.get_set_self, Hp.get_set_ne, Hp.get_alloc_self, Hp.get_alloc_ne, Hp.get_alloc_at, Hp.get_set_at, Hp.set_next, Hp.alloc_next, Option.some_ne_none, V.tup.injEq, Option.isSome_some, Option.isSome_none, exists_eq_left, exists_eq, Nat.mul_zero, hc], by simp (disch := (first | omega | (simp only [Hp.alloc_next, Hp.set_next] <;> omega) | (simp (disch := (first | omega | (simp only [Hp.alloc_next, Hp.set_next] <;> omega) | fail)) only [Hp.get_set_self, Hp.get_set_ne, Hp.get_alloc_self, Hp.get_alloc_ne, Hp.get_alloc_at, Hp.get_set_at, Hp.set_next, Hp.alloc_next, hc]; done) | fail)) only [Hp.st, Hp.ld, Hp.lda, splice, ble_eq', if_true, if_false, ite_true, ite_false, cond_true, cond_false, decide_true, decide_false, List.length_cons, List.length_nil, List.take_zero, List.take_succ_cons, List.nil_append, List.cons_append, List.append_nil, List.drop_succ_cons, List.drop_zero, List.drop_nil, List.getElem?_cons_succ, List.getElem?_cons_zero, Nat.reduceAdd, Nat.reduceLeDiff, Nat.reduceEqDiff, Nat.zero_add, Nat.add_zero, Nat.le_refl, Nat.zero_le, Nat.succ_ne_self, Nat.mul_one, Int.toNat_natCast, Option.some.injEq, Option.isNone_some, Option.isNone_none, V.int.injEq, V.str.injEq, V.bool.injEq, V.ptr.injEq, V.slc.injEq, V.map.injEq, V.agg.injEq, V.tup.injEq, List.cons.injEq, Prod.mk.injEq, onS, true_and, and_true, and_assoc, exists_and_left, exists_eq_left', forall_eq, heq_eq_eq, reduceCtorEq, Bool.not_true, Bool.not_false, eq_self, not_false_eq_true, Nat.left_eq_add, Nat.add_eq_left, Nat.add_left_cancel_iff, Nat.add_right_cancel_iff, Nat.reduceEqDiff, Nat.one_ne_zero, Hp.get_set_self, Hp.get_set_ne, Hp.get_alloc_self, Hp.get_alloc_ne, Hp.get_alloc_at, Hp.get_set_at, Hp.set_next, Hp.alloc_next, Option.some_ne_none, V.tup.injEq, Option.isSome_some, Option.isSome_none, exists_eq_left, exists_eq, Nat.mul_zero, hc], by simp (disch := (first | omega | (simp only [Hp.alloc_next, Hp.set_next] <;> omega) | (simp (disch := (first | omega | (simp only [Hp.alloc_next, Hp.set_next] <;> omega) | fail)) only [Hp.get_set_self, Hp.get_set_ne, Hp.get_alloc_self, Hp.get_alloc_ne, Hp.get_alloc_at, Hp.get_set_at, Hp.set_next, Hp.alloc_next, hc]; done) | fail)) only [Hp.st, Hp.ld, Hp.lda, splice, ble_eq', if_true, if_false, ite_true, ite_false, cond_true, cond_false, decide_true, decide_false, List.length_cons, List.length_nil, List.take_zero, List.take_succ_cons, List.nil_append, List.cons_append, List.append_nil, List.drop_succ_cons, List.drop_zero, List.drop_nil, List.getElem?_cons_succ, List.getElem?_cons_zero, Nat.reduceAdd, Nat.reduceLeDiff, Nat.reduceEqDiff, Nat.zero_add, Nat.add_zero, Nat.le_refl, Nat.zero_le, Nat.succ_ne_self, Nat.mul_one, Int.toNat_natCast, Option.some.injEq, Option.isNone_some, Option.isNone_none, V.int.injEq, V.str.injEq, V.bool.injEq, V.ptr.injEq, V.slc.injEq, V.map.injEq, V.agg.injEq, V.tup.injEq, List.cons.injEq, Prod.mk.injEq, onS, true_and, and_true, and_assoc, exists_and_left, exists_eq_left', forall_eq, heq_eq_eq, reduceCtorEq, Bool.not_true, Bool.not_false, eq_self, not_false_eq_true, Nat.left_eq_add, Nat.add_eq_left, Nat.add_left_cancel_iff, Nat.add_right_cancel_iff, Nat.reduceEqDiff, Nat.one_ne_zero, Hp.get_set_self, Hp.get_set_ne, Hp.get_alloc_self, Hp.get_alloc_ne, Hp.get_alloc_at, Hp.get_set_at, Hp.set_next, Hp.alloc_next, Option.some_ne_none, V.tup.injEq, Option.isSome_some, Option.isSome_none, exists_eq_left, exists_eq, Nat.mul_zero, hc], by simp (disch := (first | omega | (simp only [Hp.alloc_next, Hp.set_next] <;> omega) | (simp (disch := (first | omega | (simp only [Hp.alloc_next, Hp.set_next] <;> omega) | fail)) only [Hp.get_set_self, Hp.get_set_ne, Hp.get_alloc_self, Hp.get_alloc_ne, Hp.get_alloc_at, Hp.get_set_at, Hp.set_next, Hp.alloc_next, hc]; done) | fail)) only [Hp.st, Hp.ld, Hp.lda, splice, ble_eq', if_true, if_false, ite_true, ite_false, cond_true, cond_false, decide_true, decide_false, List.length_cons, List.length_nil, List.take_zero, List.take_succ_cons, List.nil_append, List.cons_append, List.append_nil, List.drop_succ_cons, List.drop_zero, List.drop_nil, List.getElem?_cons_succ, List.getElem?_cons_zero, Nat.reduceAdd, Nat.reduceLeDiff, Nat.reduceEqDiff, Nat.zero_add, Nat.add_zero, Nat.le_refl, Nat.zero_le, Nat.succ_ne_self, Nat.mul_one, Int.toNat_natCast, Option.some.injEq, Option.isNone_some, Option.isNone_none, V.int.injEq, V.str.injEq, V.bool.injEq, V.ptr.injEq, V.slc.injEq, V.map.injEq, V.agg.injEq, V.tup.injEq, List.cons.injEq, Prod.mk.injEq, onS, true_and, and_true, and_assoc, exists_and_left, exists_eq_left', forall_eq, heq_eq_eq, reduceCtorEq, Bool.not_true, Bool.not_false, eq_self, not_false_eq_true, Nat.left_eq_add, Nat.add_eq_left, Nat.add_left_cancel_iff, Nat.add_right_cancel_iff, Nat.reduceEqDiff, Nat.one_ne_zero, Hp.get_set_self, Hp.get_set_ne, Hp.get_alloc_self, Hp.get_alloc_ne, Hp.get_alloc_at, Hp.get_set_at, Hp.set_next, Hp.alloc_next, Option.some_ne_none, V.tup.injEq, Option.isSome_some, Option.isSome_none, exists_eq_left, exists_eq, Nat.mul_zero, hc]⟩
  obtain ⟨p, hp⟩ : ∃ p : Pr, p = ⟨pa, pb, pc, pd⟩ := ⟨_, rfl⟩
  rw [← hp] at rd
  have hpv : Pr.v p = .agg [.int .u32 pa, .int .u16 pb, .int .u32 pc, .int .u16 pd] := by rw [hp]; rfl
  obtain ⟨e1, e2, e3, e4, e5, e6⟩ := rd c6
  rw [hpv] at e1
  refine ⟨pa, pb, pc, pd, e1, (mget R p).getD 0, (mget R p).isSome, by rw [← hpv]; exact j6.rget p, ?_⟩
  refine ⟨fun vs g' => match vs with
    | [] => ∃ (S' : TS) (C' R' : List (Pr × Int)), HJ h t m1 m2 F S' C' R' g' ∧ One S' C' R' (k + 1) ∧ g'.get c = some (.row sh 1 false)
    | _ => False, ?_, ?_⟩
  · refine ⟨d, e3, ?_⟩
    cases hd0 : d == 0 with
    | true =>
      refine ⟨pa, pb, pc, pd, e1, w, e4, ?_⟩
      rw [← hpv]
      refine (put_spec j6.wf j6.tab p w).mono ?_
      rintro _ g7 ⟨rfl, r7, u7, w7⟩
      have c7 : g7.get c = some (.row sh 1 false) := by rw [u7.same c hcl hcF]; exact c6
      have j7 := j6.upd j6.next r7 u7 w7
      obtain ⟨e1', e2', e3', e4', e5', e6'⟩ := rd c7
      rw [hpv] at e1'
      refine ⟨_, rfl, fun vs g' => match vs with
        | [] => g' = g7
        | _ => False, ?_, ?_⟩
      · cases hc0 : (putF S p w).1 == 0 with
        | false => exact ⟨by trivial, rfl⟩
        | true =>
          obtain ⟨h1, h2, h3⟩ := putF_ok (by simpa using hc0)
          refine ⟨pa, pb, pc, pd, e1', (mget C p).getD 0, by rw [← hpv]; exact j7.cget p, ?_⟩
          rw [(s.none h2).1, (s.none h2).2]
          refine ⟨w, e4', ?_⟩
          rw [show (w == 0) = false by simpa using h1]
          exact ⟨by trivial, rfl⟩
      · rintro bs2 g8 rfl
        cases hc0 : (putF S p w).1 == 0 with
        | false =>
          have hS := putF_no (S := S) (p := p) (w := w) (by simpa using hc0)
          rw [hS] at j7
          exact ⟨by trivial, S, C, R, j7, s.weak, c7⟩
        | true =>
          obtain ⟨h1, h2, h3⟩ := putF_ok (by simpa using hc0)
          refine ⟨pa, pb, pc, pd, e1', w, e4', ?_⟩
          rw [← hpv]
          obtain ⟨g9, hx9, j9, n9, s9⟩ := j7.cput p w
          refine ⟨g9, hx9, by trivial, _, _, _, j9, ?_, by rw [s9 c hc1]; exact c7⟩
          rw [h3]
          have hR := (s.none h2).2
          refine s.put (p := p) (e := (w, 0)) (R' := R) hwho rfl rfl (.inl rfl) (fun q => ?_) s.rn (by have := s.rl; omega)
          by_cases e : q = p
          · rw [if_pos e, if_neg (show ¬ w = 0 from h1), e]; exact hR
          · rw [if_neg e]
    | false =>
    cases hd1 : d == 1 with
    | true =>
      refine ⟨pa, pb, pc, pd, e1, now, e6, ?_⟩
      rw [← hpv]
      refine (rest_spec j6.wf j6.tab p now).mono ?_
      rintro _ g7 ⟨rfl, r7, u7, w7⟩
      have c7 : g7.get c = some (.row sh 1 false) := by rw [u7.same c hcl hcF]; exact c6
      have j7 := j6.upd j6.next r7 u7 w7
      obtain ⟨e1', e2', e3', e4', e5', e6'⟩ := rd c7
      rw [hpv] at e1'
      refine ⟨_, rfl, ?_⟩
      cases hc0 : (restF S p now).1 == 0 with
      | false =>
        have hS := restF_no (S := S) (p := p) (u := now) (by simpa using hc0)
        rw [hS] at j7
        exact ⟨by trivial, S, C, R, j7, s.weak, c7⟩
      | true =>
        have hone := restF_ok s hk300 (p := p) (u := now) (by simpa using hc0)
        have fin : ∀ v, v = (if (mget R p).isSome = true then (if (mget R p).getD 0 < now then now else (mget R p).getD 0) else now) → ∃ g8, xput T g7 27 (.map (some m2)) (Pr.v p) (.int .i64 v) = some g8 ∧ ∃ n47 n48 n49 n50, g8.lda c 1 4 = some (.agg [.int .u32 n47, .int .u16 n48, .int .u32 n49, .int .u16 n50]) ∧ ∃ g9, xput T g8 26 (.map (some m1)) (.agg [.int .u32 n47, .int .u16 n48, .int .u32 n49, .int .u16 n50]) (.int .u64 0) = some g9 ∧ ∃ (S' : TS) (C' R' : List (Pr × Int)), HJ h t m1 m2 F S' C' R' g9 ∧ One S' C' R' (k + 1) ∧ g9.get c = some (.row sh 1 false) := by
          intro v hv
          obtain ⟨g8, hx8, j8, n8, s8⟩ := j7.rput p v
          have c8 : g8.get c = some (.row sh 1 false) := by rw [s8 c hc2]; exact c7
          obtain ⟨f1, _⟩ := rd c8
          rw [hpv] at f1
          obtain ⟨g9, hx9, j9, n9, s9⟩ := j8.cput p 0
          rw [hpv] at hx9
          exact ⟨g8, hx8, pa, pb, pc, pd, f1, g9, hx9, _, _, _, j9, by rw [hv]; exact hone, by rw [s9 c hc1]; exact c8⟩
        cases hb : (mget R p).isSome with
        | true =>
          refine ⟨pa, pb, pc, pd, e1', now, e6', ?_⟩
          obtain ⟨g8, hx8, n47, n48, n49, n50, f1, g9, hx9, S', C', R', j9, s9, c9⟩ := fin (if (mget R p).getD 0 < now then now else (mget R p).getD 0) (by rw [if_pos hb])
          refine ⟨g8, ?_, n47, n48, n49, n50, f1, g9, hx9, by trivial, S', C', R', j9, s9, c9⟩
          rw [← hpv]
          have : (bif ltI ((mget R p).getD 0) now then now else (mget R p).getD 0) = (if (mget R p).getD 0 < now then now else (mget R p).getD 0) := by rw [ltI_eq]; by_cases hh : (mget R p).getD 0 < now <;> simp [hh]
          rw [this]; exact hx8
        | false =>
          refine ⟨pa, pb, pc, pd, e1', now, e6', ?_⟩
          obtain ⟨g8, hx8, n47, n48, n49, n50, f1, g9, hx9, S', C', R', j9, s9, c9⟩ := fin now (by rw [if_neg (by rw [hb]; exact Bool.false_ne_true)])
          exact ⟨g8, by rw [← hpv]; exact hx8, n47, n48, n49, n50, f1, g9, hx9, by trivial, S', C', R', j9, s9, c9⟩
    | false =>
    cases hd4 : d == 4 with
    | true =>
      refine ⟨now, e6, ?_⟩
      have hrs := s.rs
      refine (old_spec j6.wf j6.tab now s.nd (fun k hk => by have := s.len k hk; omega) (by omega)).mono ?_
      rintro _ g7 ⟨S', rfl, ho, r7, u7, w7⟩
      have c7 : g7.get c = some (.row sh 1 false) := by rw [u7.same c hcl hcF]; exact c6
      have j7 := j6.upd j6.next r7 u7 w7
      have hcl7 : c < g7.next := w7 _ _ c7
      refine ⟨_, rfl, ?_⟩
      obtain ⟨oR, hgR, hmR⟩ := j7.rm
      obtain ⟨g8, hx8, it8, s8, n8, w8⟩ := hmR.iter mtR hgR w7
      refine ⟨g8, hx8, fun vs g' => match vs with
        | [.slc x m f] => ∃ (done : List (Pr × Int)) (G : List Nat), Itr Pr.v kI R m2 g7.next done g' ∧ m = (olds now done).length ∧ Own 4 x (olds now done).length (pRows (olds now done)) g' G ∧ (∀ y ∈ G, g7.next < y) ∧ (∀ y, y < g7.next → g'.get y = g7.get y) ∧ g'.wf ∧ g7.next < g'.next
        | _ => False, fun _ g' => R.length - itN g7.next g', ⟨by trivial, [], [], it8, rfl, Own.nil _ _, by simp, fun y hy => s8 y (by omega), w8, by omega⟩, ?_⟩
      rintro bs3 x m f2 g9 ⟨done, G, it9, rfl, o9, hG9, s9, w9, n9⟩
      obtain ⟨r, hr', hend, hforms, hstep⟩ := it9.next w9
      have hRl := s.rl
      have hlen : (olds now done).length ≤ 300 := by
        have h1 := it9.le
        have h2 : (olds now done).length ≤ done.length := by unfold olds; rw [List.length_map]; exact List.length_filter_le _ _
        omega
      refine ⟨r, hr', fun hm => ?_, hforms, ?_⟩
      · have hperm := hend hm
        have j9 := j7.stay j7.next s9 w9
        refine ⟨fun vs g' => match vs with
          | [.int _ i] => ∃ m : Nat, i = m ∧ m ≤ (olds now done).length ∧ HJ h t m1 m2 F S' C (dels R ((olds now done).take m)) g' ∧ Own 4 x (olds now done).length (pRows (olds now done)) g' G ∧ g'.get c = some (.row sh 1 false)
          | _ => False, fun vs _ => match vs with
          | [.int _ i] => (olds now done).length - i.toNat
          | _ => 0, ⟨by trivial, 0, rfl, by omega, j9, o9, by rw [s9 c hcl7]; exact c7⟩, ?_⟩
        rintro bs4 i4 g10 ⟨m, rfl, hm', j10, o10, c10⟩
        cases hi4 : ltI (↑m) (↑(olds now done).length) with
        | true =>
          rw [ltI_eq, decide_eq_true_eq] at hi4
          obtain ⟨q4, o4, row4, rfl, hr4, _, _, hl4⟩ := o10.ld (k := m) (by omega)
          have hwm : IntKind.i64.wrap ((m : Int) + 1) = ((m + 1 : Nat) : Int) := by rw [wr (by omega) (by omega)]; rfl
          obtain ⟨z, hz4⟩ : ∃ z, (olds now done)[m]? = some z := ⟨_, List.getElem?_eq_getElem (by omega)⟩
          have hrz : row4 = prow z := by unfold pRows at hr4; rw [List.getElem?_map, hz4] at hr4; simpa using hr4.symm
          subst hrz
          obtain ⟨g11, hx11, j11, n11, s11⟩ := j10.rdel z
          refine ⟨⟨by omega, hi4⟩, z.a, z.b, z.c, z.d, by rw [Int.toNat_natCast]; exact hl4, g11, hx11, by trivial, ?_, ?_⟩
          · rw [hwm]
            refine ⟨m + 1, rfl, by omega, ?_, (Own.rep _ _ _ _).loc _ _ _ (fun y hy => s11 y (fun e => by have := hG9 y hy; have := j7.lt2; omega)) o10, by rw [s11 c hc2]; exact c10⟩
            have : (olds now done).take (m + 1) = (olds now done).take m ++ [z] := by rw [List.take_add_one, hz4]; rfl
            rw [this, dels_snoc]; exact j11
          · rw [hwm]; simp only [Int.toNat_natCast]; omega
        | false =>
          rw [ltI_eq, decide_eq_false_iff_not] at hi4
          obtain rfl : m = (olds now done).length := by omega
          rw [List.take_length] at j10
          exact ⟨by trivial, S', C, _, j10, s.old ho hk300 (dels_sub _ _) (olds_get s.rn hperm), c10⟩
      · intro a1 b1 g10 hm10
        obtain ⟨z, hz', rfl, rfl, hent, hs10, hn10, w10, ⟨rest, hperm⟩, hnx⟩ := hstep a1 b1 g10 hm10
        refine ⟨z.1.a, z.1.b, z.1.c, z.1.d, z.2, hent, ?_⟩
        rintro g11 rfl
        refine ⟨_, Hp.st_of Hp.get_alloc_self (Nat.le_of_ble_eq_true rfl), ?_⟩
        obtain ⟨g12, hg12⟩ : ∃ g12, g12 = (g10.alloc (.row [.int .u32 0, .int .u16 0, .int .u32 0, .int .u16 0] 1 false)).set g10.next (.row (splice [.int .u32 0, .int .u16 0, .int .u32 0, .int .u16 0] 0 [.int .u32 z.1.a, .int .u16 z.1.b, .int .u32 z.1.c, .int .u16 z.1.d]) 1 false) := ⟨_, rfl⟩
        have c12 : g12.get g10.next = some (.row (prow z.1) 1 false) := by rw [hg12, Hp.get_set_self]; rfl
        have q12 : Quiet g10 g12 := by rw [hg12]; exact ⟨fun j hj => by simp (disch := (first | omega | (simp only [Hp.alloc_next, Hp.set_next] <;> omega) | (simp (disch := (first | omega | (simp only [Hp.alloc_next, Hp.set_next] <;> omega) | fail)) only [Hp.get_set_self, Hp.get_set_ne, Hp.get_alloc_self, Hp.get_alloc_ne, Hp.get_alloc_at, Hp.get_set_at, Hp.set_next, Hp.alloc_next]; done) | fail)) only [Hp.st, Hp.ld, Hp.lda, splice, ble_eq', if_true, if_false, ite_true, ite_false, cond_true, cond_false, decide_true, decide_false, List.length_cons, List.length_nil, List.take_zero, List.take_succ_cons, List.nil_append, List.cons_append, List.append_nil, List.drop_succ_cons, List.drop_zero, List.drop_nil, List.getElem?_cons_succ, List.getElem?_cons_zero, Nat.reduceAdd, Nat.reduceLeDiff, Nat.reduceEqDiff, Nat.zero_add, Nat.add_zero, Nat.le_refl, Nat.zero_le, Nat.succ_ne_self, Nat.mul_one, Int.toNat_natCast, Option.some.injEq, Option.isNone_some, Option.isNone_none, V.int.injEq, V.str.injEq, V.bool.injEq, V.ptr.injEq, V.slc.injEq, V.map.injEq, V.agg.injEq, V.tup.injEq, List.cons.injEq, Prod.mk.injEq, onS, true_and, and_true, and_assoc, exists_and_left, exists_eq_left', forall_eq, heq_eq_eq, reduceCtorEq, Bool.not_true, Bool.not_false, eq_self, not_false_eq_true, Nat.left_eq_add, Nat.add_eq_left, Nat.add_left_cancel_iff, Nat.add_right_cancel_iff, Nat.reduceEqDiff, Nat.one_ne_zero, Hp.get_set_self, Hp.get_set_ne, Hp.get_alloc_self, Hp.get_alloc_ne, Hp.get_alloc_at, Hp.get_set_at, Hp.set_next, Hp.alloc_next, Option.some_ne_none, V.tup.injEq, Option.isSome_some, Option.isSome_none, exists_eq_left, exists_eq, Nat.mul_zero], by simp (disch := (first | omega | (simp only [Hp.alloc_next, Hp.set_next] <;> omega) | (simp (disch := (first | omega | (simp only [Hp.alloc_next, Hp.set_next] <;> omega) | fail)) only [Hp.get_set_self, Hp.get_set_ne, Hp.get_alloc_self, Hp.get_alloc_ne, Hp.get_alloc_at, Hp.get_set_at, Hp.set_next, Hp.alloc_next]; done) | fail)) only [Hp.st, Hp.ld, Hp.lda, splice, ble_eq', if_true, if_false, ite_true, ite_false, cond_true, cond_false, decide_true, decide_false, List.length_cons, List.length_nil, List.take_zero, List.take_succ_cons, List.nil_append, List.cons_append, List.append_nil, List.drop_succ_cons, List.drop_zero, List.drop_nil, List.getElem?_cons_succ, List.getElem?_cons_zero, Nat.reduceAdd, Nat.reduceLeDiff, Nat.reduceEqDiff, Nat.zero_add, Nat.add_zero, Nat.le_refl, Nat.zero_le, Nat.succ_ne_self, Nat.mul_one, Int.toNat_natCast, Option.some.injEq, Option.isNone_some, Option.isNone_none, V.int.injEq, V.str.injEq, V.bool.injEq, V.ptr.injEq, V.slc.injEq, V.map.injEq, V.agg.injEq, V.tup.injEq, List.cons.injEq, Prod.mk.injEq, onS, true_and, and_true, and_assoc, exists_and_left, exists_eq_left', forall_eq, heq_eq_eq, reduceCtorEq, Bool.not_true, Bool.not_false, eq_self, not_false_eq_true, Nat.left_eq_add, Nat.add_eq_left, Nat.add_left_cancel_iff, Nat.add_right_cancel_iff, Nat.reduceEqDiff, Nat.one_ne_zero, Hp.get_set_self, Hp.get_set_ne, Hp.get_alloc_self, Hp.get_alloc_ne, Hp.get_alloc_at, Hp.get_set_at, Hp.set_next, Hp.alloc_next, Option.some_ne_none, V.tup.injEq, Option.isSome_some, Option.isSome_none, exists_eq_left, exists_eq, Nat.mul_zero]; omega, w10.alloc.set (Nat.lt_succ_self _)⟩
        rw [← hg12]
        clear hg12
        have hle12 := q12.le
        have s12 : ∀ y, y < g7.next → g12.get y = g7.get y := fun y hy => by rw [q12.same y (by omega), hs10 y (by omega), s9 y hy]
        have c12' : g12.get c = some (.row sh 1 false) := by rw [s12 c hcl7]; exact c7
        obtain ⟨f1, f2', f3, f4, f5, f6⟩ := rd c12'
        have o12 : Own 4 x (olds now done).length (pRows (olds now done)) g12 G := (Own.rep _ _ _ _).loc _ _ _ (fun y hy => by
          have h1 := hG9 y hy
          have h2 := (Own.rep _ _ _ _).lt w9 o9 hy
          rw [q12.same y (by omega), hs10 y (by omega)]) o9
        refine ⟨now, f6, ?_⟩
        have eo : olds now (done ++ [z]) = olds now done ++ (if z.2 ≤ now then [z.1] else []) := by
          unfold olds
          rw [List.filter_append, List.map_append]
          by_cases hh : z.2 ≤ now <;> simp [hh]
        cases hlt : ltI now z.2 with
        | true =>
          rw [ltI_eq, decide_eq_true_eq] at hlt
          rw [if_neg (by omega), List.append_nil] at eo
          obtain ⟨i13, lt13⟩ := hnx g12 (q12.same _ (by have := j7.lt2; omega)) (q12.same _ (by omega))
          exact ⟨by trivial, ⟨_, G, i13, by rw [eo], by rw [eo]; exact o12, hG9, s12, q12.wf, by omega⟩, lt13⟩
        | false =>
          rw [ltI_eq, decide_eq_false_iff_not] at hlt
          rw [if_pos (by omega)] at eo
          have f1' : g12.lda g10.next 0 4 = some (.agg (prow z.1)) := by
            rw [Hp.lda_of c12 (Nat.le_of_ble_eq_true rfl)]; rfl
          refine ⟨z.1.a, z.1.b, z.1.c, z.1.d, f1', ?_⟩
          rintro g13 rfl
          obtain ⟨g14, hx14, o14, s14, n14, w14⟩ := app42 (c := prow z.1) (f := f2) rfl o12 q12.wf (by omega)
          have s14' : ∀ y, y < g10.next → y ∉ G → g14.get y = g10.get y := fun y hy hyG => by rw [s14 y (by omega) hyG, q12.same y hy]
          obtain ⟨i14, lt14⟩ := hnx g14 (s14' _ (by have := j7.lt2; omega) (fun hh => by have := hG9 _ hh; have := j7.lt2; omega)) (s14' _ (by omega) (fun hh => by have := hG9 _ hh; omega))
          refine ⟨_, _, _, g14, hx14, by trivial, ⟨_, [g12.next + 1], i14, by rw [eo]; simp, by rw [eo]; simpa [pRows] using o14, fun y hy => by rw [List.mem_singleton] at hy; omega, fun y hy => ?_, w14, by omega⟩, lt14⟩
          rw [s14 y (by omega) (fun hh => by have := hG9 _ hh; omega)]; exact s12 y hy
    | false =>
    cases hd2 : d == 2 with
    | true =>
      refine ⟨w, e4, ai, ap, e2, ?_⟩
      refine (listen_spec j6.wf j6.tab w ⟨ai, ap⟩).mono ?_
      rintro _ g7 ⟨rfl, r7, u7, w7⟩
      exact ⟨_, rfl, by trivial, _, C, R, j6.upd j6.next r7 u7 w7, s.listen w ⟨ai, ap⟩, by rw [u7.same c hcl hcF]; exact c6⟩
    | false => exact ⟨by trivial, S, C, R, j6, s.weak, c6⟩
  clear c6 q6 j6 hcl j s e1 e2 e3 e4 e5 e6 hlda hrow
  rintro bs5 g7 ⟨S', C', R', j7, s7, c7⟩
  obtain ⟨e1, e2, e3, e4, e5, e6⟩ := rd c7
  rw [hpv] at e1
  refine ⟨pa, pb, pc, pd, e1, hs, e5, now, e6, ?_⟩
  rw [← hpv]
  refine (find_spec j7.wf j7.tab ⟨s7.en, by have := s7.el; omega⟩ p hhs).mono ?_
  rintro _ g8 ⟨q8, kk, ww, rfl, hfind⟩
  have hcl7 : c < g7.next := j7.wf _ _ c7
  have c8 : g8.get c = some (.row sh 1 false) := by rw [q8.same c hcl7]; exact c7
  have j8 := j7.stay j7.next q8.same q8.wf
  obtain ⟨f1, f2, f3, f4, f5, f6⟩ := rd c8
  rw [hpv] at f1
  refine ⟨kk, ww, rfl, pa, pb, pc, pd, f1, (mget R' p).getD 0, (mget R' p).isSome, by rw [← hpv]; exact j8.rget p, ?_⟩
  -- what is wanted, and what Find says
  obtain ⟨want, hwant⟩ : ∃ want : Int, want = if (mget C' p).getD 0 ≠ 0 then 1 else if (mget R' p).isSome = true ∧ now < (mget R' p).getD 0 then 3 else 0 := ⟨_, rfl⟩
  have hgood : (want = 1 ∧ kk = 1 ∧ ww = (mget C' p).getD 0) ∨ (want = 3 ∧ kk = 3 ∧ ww = 0) ∨ (want = 0 ∧ (kk = 0 ∨ kk = 2)) := by
    rcases hfind with ⟨sk, u, hl, h0, rfl, hww⟩ | ⟨sk, u, hl, h0, hu, rfl, rfl⟩ | ⟨hno, l1, l2, _, _, hh⟩
    · obtain ⟨v1, v2, v3⟩ := s7.some hl
      have v2 : (mget C' p).getD 0 = sk := v2
      rw [v2, if_pos (by omega)] at hwant
      exact .inl ⟨hwant, rfl, by rw [v2, hww]⟩
    · obtain ⟨v1, v2, v3⟩ := s7.some hl
      have v1 : 0 ≤ sk := v1
      have v2 : (mget C' p).getD 0 = sk := v2
      have v3 : mget R' p = if sk = 0 then some u else none := v3
      have hs0 : sk = 0 := by omega
      rw [if_pos hs0] at v3
      rw [v2, v3, if_neg (by omega), if_pos ⟨rfl, hu⟩] at hwant
      exact .inr (.inl ⟨hwant, rfl, rfl⟩)
    · refine .inr (.inr ⟨?_, by rcases hh with ⟨_, h1, _⟩ | ⟨h1, _⟩ <;> omega⟩)
      cases hx : Tbl.look S' p with
      | none =>
        obtain ⟨v1, v2⟩ := s7.none hx
        rw [v1, v2, if_neg (by simp), if_neg (by simp)] at hwant
        exact hwant
      | some x =>
        obtain ⟨v1, v2, v3⟩ := s7.some hx
        obtain ⟨n1, n2⟩ := hno x.1 x.2 hx
        have h0 : x.1 = 0 := by omega
        rw [if_pos h0] at v3
        rw [v2, v3, if_neg (by omega), if_neg (fun hh => n2 hh.2)] at hwant
        exact hwant
  refine ⟨fun vs g' => match vs with
    | [.int _ x] => x = want ∧ g' = g8
    | _ => False, ?_, ?_⟩
  · refine ⟨pa, pb, pc, pd, f1, (mget C' p).getD 0, by rw [← hpv]; exact j8.cget p, ?_⟩
    cases hc0 : (mget C' p).getD 0 != 0 with
    | true =>
      rw [if_pos (by simpa using hc0)] at hwant
      exact ⟨by trivial, hwant.symm, rfl⟩
    | false =>
      rw [if_neg (by simpa using hc0)] at hwant
      cases hb : (mget R' p).isSome with
      | false =>
        rw [if_neg (fun hh => by rw [hb] at hh; exact Bool.false_ne_true hh.1)] at hwant
        exact ⟨by trivial, hwant.symm, rfl⟩
      | true =>
        refine ⟨now, f6, ?_⟩
        cases hlt : ltI now ((mget R' p).getD 0) with
        | true =>
          rw [ltI_eq, decide_eq_true_eq] at hlt
          rw [if_pos ⟨hb, hlt⟩] at hwant
          exact ⟨by trivial, hwant.symm, rfl⟩
        | false =>
          rw [ltI_eq, decide_eq_false_iff_not] at hlt
          rw [if_neg (fun hh => hlt hh.2)] at hwant
          exact ⟨by trivial, hwant.symm, rfl⟩
  rintro bs6 x6 g9 ⟨rfl, rfl⟩
  have done : HJ h t m1 m2 F S' C' R' g9 ∧ One S' C' R' (k + 1) := ⟨j8, s7⟩
  have ms : n - (((k + 1 : Nat) : Int)).toNat < n - ((k : Int)).toNat := by omega
  rw [hw1]
  rcases hgood with ⟨h1, h2, h3⟩ | ⟨h1, h2, h3⟩ | ⟨h1, h2⟩
  · rw [h1, h2]
    refine ⟨pa, pb, pc, pd, f1, (mget C' p).getD 0, by rw [← hpv]; exact j8.cget p, ?_⟩
    rw [h3, bne_self_eq_false]
    exact ⟨by trivial, ⟨k + 1, S', C', R', rfl, by omega, done.1, done.2⟩, ms⟩
  · rw [h1, h2, h3]
    exact ⟨by trivial, ⟨k + 1, S', C', R', rfl, by omega, done.1, done.2⟩, ms⟩
  · rw [h1]
    rcases h2 with h2 | h2
    · rw [h2]
      exact ⟨by trivial, ⟨k + 1, S', C', R', rfl, by omega, done.1, done.2⟩, ms⟩
    · rw [h2]
      exact ⟨by trivial, ⟨k + 1, S', C', R', rfl, by omega, done.1, done.2⟩, ms⟩
end Go.Vex.TableOne

namespace Go.Proofs.Yteknlobdnjcdbaa.tableOne
open Go.ChangeShapes Go.WideShapes Go.ChangeAt Go.RowKit Go.Vex Go.Vex.TableOne
open Go.ChangeMaps (open_string shut_string)

theorem own : ownKnob Try.prog.godebug = none := by kernel_rfl

set_option maxRecDepth 100000 in
theorem lifted (os : Os) (started : os.Started) (H : Type) (enc : TypeId × Value → H) :
    ReturnsInHanded {} Try.checked os 3 .any (Rows.tableOneSpec.pre6 enc Try.prog Try.f3 Rows.tableOneRow.domain false) (Rows.tableOneSpec.post enc Try.prog Try.f3 false true false false) := by
  refine returnsInHanded_of_change_sized (C := Try.checked) own started (by kernel_rfl) Try.func3
    (ChangeSpec.witness6 (enc := enc) (C := Try.checked) false ⟨#[], #[.slice none 0 0], []⟩ 8 (by kernel_rfl) (by kernel_rfl) (by kernel_rfl) (by kernel_rfl)) ?_
  intro W base args ds gs before hval0 hW hcnd hsz _
  have hval : ∀ (j : Nat) t v, Try.f3.params[j]? = some t → args[j]? = some v → Value.okWide Try.prog W .any base t v := hval0
  have hW' := hW
  obtain ⟨p, q, hA0, hV, rfl, hfz, hnd⟩ := hW
  have hA : DataW.TrodAll enc Try.prog W 0 (fun _ => true) true Try.f3.params.toList args.toList ds p := hA0
  rw [Try.params3] at hA hval hsz
  obtain ⟨v0, vs0, d0, ds0, p0, q0, hargs, rfl, rfl, h0, r0⟩ := trodAll_cons hA
  obtain ⟨rfl, rfl, rfl⟩ := trodAll_nil r0
  obtain rfl : args = #[v0] := by cases args; simp_all
  obtain ⟨rfl, rfl⟩ := trodVars_none hV
  obtain ⟨ρ0, hp0, b0, n0, f0, rows0, s0, x0, l0, k0, vr0, ro0, sh0, z0⟩ := arg_slice tok (T := Vex.T) (t := 22) (e := 36) (d := 8) (zs := stepZ) rfl rfl rfl rfl rfl (by decide) (hval 0 22 v0 rfl rfl) h0 (fun m hm => hW'.lt m (by simp [hm])) (fun m hm => by simpa using List.all_eq_true.1 hsz m (DataW.weights_mem_each (j := 0) (t := 22) rfl rfl m hm)) (Sat.none W fun _ => ⟨0, 0, 0, 0⟩)
  refine (XCalls.true' s0 (vs := [.slc b0 n0 f0]) ⟨_, _, rfl, vr0, rfl⟩ (law_calls ro0 sh0 z0)).mono fun e W' ⟨he, hb⟩ => ?_
  subst he
  exact ⟨_, rfl, post_true (by kernel_rfl) hW' hb rfl (fun gs hg => by subst hg; rfl) (tb := 4) rfl Try.underlying4 (by decide +kernel)⟩

theorem over : Rows.tableOneRow.holds Try.pinned (OpenSpec.ofChange Rows.tableOneSpec) :=
  OpenClaim.holds_of_wide 3 Try.f3 rfl rfl rfl rfl rfl rfl rfl ⟨rfl, rfl, rfl, rfl, rfl⟩ rfl rfl rfl rfl rfl (by kernel_rfl) Try.func3 (by kernel_rfl)
    (of_decide_eq_true (by kernel_rfl)) (by unfold Func.isWrapper; first | (rw [if_pos (by decide +kernel)]; kernel_rfl) | (rw [if_neg (by decide +kernel)]; exact ⟨rfl, rfl⟩))
    (fun os started H enc _ => lifted os started H enc)

theorem proved : Rows.TableOneSaid :=
  over
#print axioms proved
end Go.Proofs.Yteknlobdnjcdbaa.tableOne

