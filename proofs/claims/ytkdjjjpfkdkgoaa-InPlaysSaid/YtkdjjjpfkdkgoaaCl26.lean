/-
  The exact contract of Gaps (layer 26).
-/
import Derived.Test.YtkdjjjpfkdkgoaaVexGG
import Derived.Test.YtkdjjjpfkdkgoaaVexFF
import Derived.Test.YtkdjjjpfkdkgoaaTab26
import Derived.Test.YtkdjjjpfkdkgoaaXa26
import Derived.Test.YtkdjjjpfkdkgoaaCa26
import Derived.Test.YtkdjjjpfkdkgoaaXg26
import Derived.Test.YtkdjjjpfkdkgoaaCg26
import Derived.Test.YtkdjjjpfkdkgoaaCi26
import Derived.Test.YtkdjjjpfkdkgoaaCj26
import Derived.Test.YtkdjjjpfkdkgoaaCk26
import Derived.Test.YtkdjjjpfkdkgoaaXs26
import Derived.Test.YtkdjjjpfkdkgoaaCsa26
import Derived.Test.YtkdjjjpfkdkgoaaCsb26
import Derived.Test.YtkdjjjpfkdkgoaaCsc26
import Derived.Test.YtkdjjjpfkdkgoaaCsd26
import Derived.Test.YtkdjjjpfkdkgoaaXi26
set_option linter.unusedVariables false
set_option linter.unusedSimpArgs false
namespace Go.Vex.In
open Go.Proofs

/-- 'x[k].f = v' -/
theorem stC {sz n : Nat} {a : Option (Nat × Nat)} {rows : List (List V)} {h : Hp} {F : List Nat} (ho : Own sz a n rows h F) (hw : h.wf) {k : Nat} {r1 r2 : List V} {x : V} (hk : rows[k]? = some (r1 ++ x :: r2)) (v : V) :
    ∃ q o h', a = some (q, o) ∧ h.st q (o + k * sz + r1.length) [v] = some h' ∧ Own sz a n (rows.set k (r1 ++ v :: r2)) h' F ∧ (∀ j, j ∉ F → h'.get j = h.get j) ∧ h'.next = h.next ∧ h'.wf := by
  obtain ⟨hkl, hke⟩ := List.getElem?_eq_some_iff.1 hk
  obtain ⟨h1, h2, h3⟩ := ho
  cases a with
  | none => rw [h3.1] at hkl; simp at hkl
  | some p =>
    obtain ⟨q, o⟩ := p
    obtain ⟨rfl, front, rfl, hg⟩ := h3
    have hfl := flatten_len sz rows h2
    have hft := flatten_len sz (rows.take k) fun r hr => h2 r (List.mem_of_mem_take hr)
    rw [List.length_take, Nat.min_eq_left (by omega)] at hft
    have hle : k * sz + sz ≤ rows.length * sz := by
      have := Nat.mul_le_mul_right sz (show k + 1 ≤ rows.length from hkl)
      rw [Nat.succ_mul] at this; exact this
    have e1 : rows = rows.take k ++ (r1 ++ x :: r2) :: rows.drop (k + 1) := by
      conv => lhs; rw [← List.take_append_drop k rows, List.drop_eq_getElem_cons hkl, hke]
    have e2 : rows.set k (r1 ++ v :: r2) = rows.take k ++ (r1 ++ v :: r2) :: rows.drop (k + 1) := List.set_eq_take_append_cons_drop.trans (if_pos hkl)
    have hrk : (r1 ++ x :: r2).length = sz := by have := h2 _ (List.getElem_mem hkl); rw [hke] at this; exact this
    simp only [List.length_append, List.length_cons] at hrk
    refine ⟨q, front.length, _, rfl, Hp.st_of hg (by rw [List.length_append, hfl]; simp only [List.length_cons, List.length_nil]; omega), ⟨by rw [List.length_set, h1], fun r hr' => ?_, rfl, front, rfl, ?_⟩, fun j hj => Hp.get_set_ne (by simpa using hj), rfl, hw.set (hw.lt hg)⟩
    · rcases List.mem_or_eq_of_mem_set hr' with h | h
      · exact h2 r h
      · rw [h]; simp only [List.length_append, List.length_cons]; omega
    · rw [Hp.get_set_self]
      congr 2
      rw [e2]
      conv => lhs; rw [e1]
      simp only [List.flatten_append, List.flatten_cons]
      rw [show front ++ ((rows.take k).flatten ++ ((r1 ++ x :: r2) ++ (rows.drop (k + 1)).flatten)) = (front ++ (rows.take k).flatten ++ r1) ++ ([x] ++ (r2 ++ (rows.drop (k + 1)).flatten)) by simp,
        show front.length + k * sz + r1.length = (front ++ (rows.take k).flatten ++ r1).length by rw [List.length_append, List.length_append, hft], splice_at _ [x] _ [v] rfl]
      simp

/-- 'append(l, x)' -/
theorem app_row {t e : TypeId} {ti ei : TI} (ht : T t = some ti) (hd : ti.d = .slc e) (he : T e = some ei) (hb : ei.bytes ≤ 64) (hz : zok ei = true) (h0 : 1 ≤ ei.size) {n : Nat} {a : Option (Nat × Nat)} {f : Bool} {rows : List (List V)} {g : Hp} {G : List Nat} {c : List V} (ho : Own ei.size a n rows g G) (hw : g.wf) (hl : n ≤ 100000) (hc : c.length = ei.size) :
    ∃ h', xapp T (g.alloc (.row c ei.size false)) t t (.slc a n f) (.slc (some (g.next, 0)) 1 true) = some (.slc (some (g.next + 1, 0)) (n + 1) false, h') ∧
      Own ei.size (some (g.next + 1, 0)) (n + 1) (rows ++ [c]) h' [g.next + 1] ∧ Upd g h' G [g.next + 1] ∧ h'.wf := by
  have q := Quiet.alloc hw (.row c ei.size false)
  have ho' := (Own.rep _ _ _ _).stay hw ho q.same
  have hcc : (g.alloc (.row c ei.size false)).get g.next = some (.row c ei.size false) := Hp.get_alloc_self
  have hud : ∀ k, ti.d ≠ .int k := fun k e => by rw [hd] at e; cases e
  have hmul : (n + 1) * ei.bytes ≤ 100001 * 64 := Nat.mul_le_mul (by omega) hb
  obtain ⟨h', hx, ho2, u, wf⟩ := ho'.app (f := f) q.wf ht hd ht hud he rfl h0 hz (news := [c]) (xnews_one hcc hc) (by simp [hc]) (by simp) (by simp only [List.length_singleton]; omega) (by simp; omega)
  exact ⟨h', hx, ho2, (q.upd _).trans u, wf⟩

theorem t77 : ∃ ti ei, T 77 = some ti ∧ ti.d = .slc 22 ∧ T 22 = some ei ∧ ei.size = 1 ∧ ei.bytes ≤ 64 ∧ zok ei = true := ⟨_, _, rfl, rfl, rfl, rfl, by decide, rfl⟩
theorem t57 : ∃ ti ei, T 57 = some ti ∧ ti.d = .slc 65 ∧ T 65 = some ei ∧ ei.size = 2 ∧ ei.bytes ≤ 64 ∧ zok ei = true := ⟨_, _, rfl, rfl, rfl, rfl, by decide, rfl⟩
theorem t61 : ∃ ti ei, T 61 = some ti ∧ ti.d = .slc 3 ∧ T 3 = some ei ∧ ei.size = 1 ∧ ei.bytes ≤ 64 ∧ zok ei = true := ⟨_, _, rfl, rfl, rfl, rfl, by decide, rfl⟩

section
variable {n : Nat} {a : Option (Nat × Nat)} {f : Bool} {rows : List (List V)} {g : Hp} {G : List Nat} {c : List V}
theorem app77 (ho : Own 1 a n rows g G) (hw : g.wf) (hl : n ≤ 100000) (hc : c.length = 1) : ∃ h', xapp T (g.alloc (.row c 1 false)) 77 77 (.slc a n f) (.slc (some (g.next, 0)) 1 true) = some (.slc (some (g.next + 1, 0)) (n + 1) false, h') ∧
      Own 1 (some (g.next + 1, 0)) (n + 1) (rows ++ [c]) h' [g.next + 1] ∧ Upd g h' G [g.next + 1] ∧ h'.wf := by
  obtain ⟨ti, ei, h1, h2, h3, h4, h5, h6⟩ := t77
  have := app_row (f := f) h1 h2 h3 h5 h6 (by omega) (by rw [h4]; exact ho) hw hl (by rw [h4]; exact hc)
  rw [h4] at this; exact this
theorem app57 (ho : Own 2 a n rows g G) (hw : g.wf) (hl : n ≤ 100000) (hc : c.length = 2) : ∃ h', xapp T (g.alloc (.row c 2 false)) 57 57 (.slc a n f) (.slc (some (g.next, 0)) 1 true) = some (.slc (some (g.next + 1, 0)) (n + 1) false, h') ∧
      Own 2 (some (g.next + 1, 0)) (n + 1) (rows ++ [c]) h' [g.next + 1] ∧ Upd g h' G [g.next + 1] ∧ h'.wf := by
  obtain ⟨ti, ei, h1, h2, h3, h4, h5, h6⟩ := t57
  have := app_row (f := f) h1 h2 h3 h5 h6 (by omega) (by rw [h4]; exact ho) hw hl (by rw [h4]; exact hc)
  rw [h4] at this; exact this
theorem app61 (ho : Own 1 a n rows g G) (hw : g.wf) (hl : n ≤ 100000) (hc : c.length = 1) : ∃ h', xapp T (g.alloc (.row c 1 false)) 61 61 (.slc a n f) (.slc (some (g.next, 0)) 1 true) = some (.slc (some (g.next + 1, 0)) (n + 1) false, h') ∧
      Own 1 (some (g.next + 1, 0)) (n + 1) (rows ++ [c]) h' [g.next + 1] ∧ Upd g h' G [g.next + 1] ∧ h'.wf := by
  obtain ⟨ti, ei, h1, h2, h3, h4, h5, h6⟩ := t61
  have := app_row (f := f) h1 h2 h3 h5 h6 (by omega) (by rw [h4]; exact ho) hw hl (by rw [h4]; exact hc)
  rw [h4] at this; exact this
end

theorem nodup_of {α β : Type} {f : α → β} {l : List α} (h : (l.map f).Nodup) : l.Nodup := (List.pairwise_map.1 h).imp fun h e => h (congrArg f e)

/-! ### the places that are filled, and what gaps there are -/

def fills (F : Nat → Int) : Nat → List Nat
  | 0 => []
  | n + 1 => if 0 ≤ F n then fills F n ++ [n] else fills F n

theorem mem_fills {F : Nat → Int} {k : Nat} : ∀ {n : Nat}, k ∈ fills F n ↔ k < n ∧ 0 ≤ F k
  | 0 => by simp [fills]
  | n + 1 => by
    unfold fills
    by_cases e : 0 ≤ F n
    · rw [if_pos e, List.mem_append, mem_fills, List.mem_singleton]
      constructor
      · rintro (h | rfl)
        · exact ⟨by omega, h.2⟩
        · exact ⟨by omega, e⟩
      · rintro ⟨h1, h2⟩
        by_cases e2 : k = n
        · exact .inr e2
        · exact .inl ⟨by omega, h2⟩
    · rw [if_neg e, mem_fills]
      constructor
      · rintro h; exact ⟨by omega, h.2⟩
      · rintro ⟨h1, h2⟩
        have : k ≠ n := by rintro rfl; exact e h2
        exact ⟨by omega, h2⟩

theorem fills_lt {F : Nat → Int} : ∀ n, (fills F n).Pairwise (· < ·)
  | 0 => by simp [fills]
  | n + 1 => by
    unfold fills
    split
    · rw [List.pairwise_append]
      exact ⟨fills_lt n, by simp, fun x hx y hy => by rw [List.mem_singleton] at hy; subst hy; exact (mem_fills.1 hx).1⟩
    · exact fills_lt n

theorem fills_len (F : Nat → Int) : ∀ n, (fills F n).length ≤ n
  | 0 => by simp [fills]
  | n + 1 => by have := fills_len F n; unfold fills; split <;> simp <;> omega

/-- one more place -/
def gstep (nx : Int) (l : List (Int × Int)) (k : Nat) : List (Int × Int) :=
  match l.getLast? with
  | some x => if x.2 = (nx + k) % 4294967296 then l.set (l.length - 1) (x.1, ((nx + k) % 4294967296 + 1) % 4294967296) else l ++ [((nx + k) % 4294967296, ((nx + k) % 4294967296 + 1) % 4294967296)]
  | none => l ++ [((nx + k) % 4294967296, ((nx + k) % 4294967296 + 1) % 4294967296)]

def gaps (nx : Int) (l : List Nat) : List (Int × Int) := l.foldl (gstep nx) []

theorem gaps_snoc (nx : Int) (l : List Nat) (k : Nat) : gaps nx (l ++ [k]) = gstep nx (gaps nx l) k := by unfold gaps; rw [List.foldl_append]; rfl

theorem gstep_len (nx : Int) (l : List (Int × Int)) (k : Nat) : (gstep nx l k).length ≤ l.length + 1 := by
  unfold gstep; split
  · split
    · rw [List.length_set]; omega
    · simp
  · simp

theorem gaps_len (nx : Int) (l : List Nat) : (gaps nx l).length ≤ l.length := by
  have : ∀ (l : List Nat) (g : List (Int × Int)), (l.foldl (gstep nx) g).length ≤ g.length + l.length := fun l => by
    induction l with
    | nil => intro g; simp
    | cons x l ih => intro g; have := ih (gstep nx g x); have := gstep_len nx g x; simp only [List.foldl_cons, List.length_cons]; omega
  have := this l []; simpa [gaps] using this

def gRows (l : List (Int × Int)) : List (List V) := l.map fun x => [.int .u32 x.1, .int .u32 x.2]

theorem gRows_get {l : List (Int × Int)} {k : Nat} {x : Int × Int} (h : l[k]? = some x) : (gRows l)[k]? = some [.int .u32 x.1, .int .u32 x.2] := by
  unfold gRows; rw [List.getElem?_map, h]; rfl

theorem gRows_set (l : List (Int × Int)) (k : Nat) (x : Int × Int) : (gRows l).set k [.int .u32 x.1, .int .u32 x.2] = gRows (l.set k x) := by
  unfold gRows; rw [List.map_set]

theorem gRows_snoc (l : List (Int × Int)) (x : Int × Int) : gRows l ++ [[.int .u32 x.1, .int .u32 x.2]] = gRows (l ++ [x]) := by unfold gRows; simp

theorem last_get {α : Type} {l : List α} {x : α} (h : l.getLast? = some x) : 0 < l.length ∧ l[l.length - 1]? = some x := by
  rw [List.getLast?_eq_getElem?] at h
  exact ⟨by have := (List.getElem?_eq_some_iff.1 h).1; omega, h⟩

section
variable {b : Int} {R : List UInt8} {n : Nat} {F : Nat → Int} {E : Int} {s : IS} {h : Hp} {i : Nat} {FA : List Nat}

theorem gaps_ex (hn : n ≤ 400) (hw : h.wf) (r : InR i s h FA) (si : PI b R n F E 0 s) (fi : FI n R.length F E) :
    XCalls Try.prog 33 [.ptr (some (i, 0))] h fun v h' => ∃ a f G, v = .slc a (gaps s.nx (fills F n)).length f ∧ Own 2 a (gaps s.nx (fills F n)).length (gRows (gaps s.nx (fills F n))) h' G ∧ Quiet h h' ∧ ∀ j ∈ G, h.next ≤ j := by
  have hnx := si.nx
  have r0 := r
  obtain ⟨m, a, f, o, G, e1, e2, e3, e4, hF, d1, d2, d3⟩ := r
  refine XCalls.cps fun K hK => ?_
  have hil := hw.lt e1
  have hml := hw.lt e2
  apply x33; unfold X33
  obtain ⟨g2, hx2, it2, s2, n2, w2⟩ := e3.iter mtF e2 hw
  let en : Int → V := fun k => .int .u32 k
  refine ⟨some m, by simp (disch := (first | omega | (simp only [Hp.alloc_next, Hp.set_next] <;> omega) | (simp (disch := (first | omega | (simp only [Hp.alloc_next, Hp.set_next] <;> omega) | fail)) only [Hp.get_set_self, Hp.get_set_ne, Hp.get_alloc_self, Hp.get_alloc_ne, Hp.get_alloc_at, Hp.get_set_at, Hp.set_next, Hp.alloc_next, e1]; done) | fail)) only [Hp.st, Hp.ld, Hp.lda, splice, ble_eq', if_true, if_false, ite_true, ite_false, cond_true, cond_false, decide_true, decide_false, List.length_cons, List.length_nil, List.take_zero, List.take_succ_cons, List.nil_append, List.cons_append, List.append_nil, List.drop_succ_cons, List.drop_zero, List.drop_nil, List.getElem?_cons_succ, List.getElem?_cons_zero, Nat.reduceAdd, Nat.reduceLeDiff, Nat.reduceEqDiff, Nat.zero_add, Nat.add_zero, Nat.le_refl, Nat.zero_le, Nat.succ_ne_self, Nat.mul_one, Int.toNat_natCast, Option.some.injEq, Option.isNone_some, Option.isNone_none, V.int.injEq, V.str.injEq, V.bool.injEq, V.ptr.injEq, V.slc.injEq, V.map.injEq, V.agg.injEq, V.tup.injEq, List.cons.injEq, Prod.mk.injEq, onS, true_and, and_true, and_assoc, exists_and_left, exists_eq_left', forall_eq, heq_eq_eq, reduceCtorEq, Bool.not_true, Bool.not_false, eq_self, not_false_eq_true, Nat.left_eq_add, Nat.add_eq_left, Nat.add_left_cancel_iff, Nat.add_right_cancel_iff, Nat.reduceEqDiff, Nat.one_ne_zero, Hp.get_set_self, Hp.get_set_ne, Hp.get_alloc_self, Hp.get_alloc_ne, Hp.get_alloc_at, Hp.get_set_at, Hp.set_next, Hp.alloc_next, Option.some_ne_none, V.tup.injEq, Option.isSome_some, Option.isSome_none, exists_eq_left, exists_eq, Nat.mul_zero, e1], g2, hx2, fun vs h' => match vs with
    | [.slc a n f] => ∃ done G, Itr kU bU s.A m h.next done h' ∧ n = done.length ∧ Own 1 a n ((done.map fun x => (x.1 - s.nx) % 4294967296).map fun k => [Sort.en k]) h' G ∧ (∀ j ∈ G, h.next < j) ∧ (∀ j, j < h.next → h'.get j = h.get j) ∧ h'.wf ∧ h.next < h'.next
    | _ => False, fun _ h' => s.A.length - itN h.next h', ⟨rfl, [], [], it2, rfl, Own.nil _ _, by simp, fun j hj => s2 j (by omega), w2, by omega⟩, ?_⟩
  rintro bs a1 n1 f1 g3 ⟨done, G1, it3, rfl, ho3, hG3, s3, w3, n3⟩
  obtain ⟨l, hl, hend, hforms, hstep⟩ := it3.next w3
  have hkeys : ∀ x ∈ s.A, ∃ k : Nat, k < 400 ∧ 0 ≤ F k ∧ x.1 = (b + k) % 4294967296 ∧ (x.1 - s.nx) % 4294967296 = k := fun x hx => by
    obtain ⟨k, h1, h2, rfl⟩ := si.far x hx
    have := fi.lt h2
    exact ⟨k, by omega, h2, rfl, by rw [hnx]; show ((b + k) % 4294967296 - _) % 4294967296 = _; omega⟩
  have hAl : s.A.length ≤ 400 := by
    have h1 : ((s.A.map fun x => (x.1 - s.nx) % 4294967296).map Int.toNat).Nodup := by
      rw [List.map_map]
      refine nodup_of (f := fun k : Nat => (b + k) % 4294967296) ?_
      rw [List.map_map]
      have : s.A.map ((fun k : Nat => (b + k) % 4294967296) ∘ Int.toNat ∘ fun x => (x.1 - s.nx) % 4294967296) = s.A.map Prod.fst := List.map_congr_left fun x hx => by
        obtain ⟨k, h1, h2, h3, h4⟩ := hkeys x hx
        simp only [Function.comp, h4, Int.toNat_natCast]; exact h3.symm
      rw [this]; exact si.nA
    have h2 := List.Nodup.length_le_of_subset h1 (l₂ := List.range 400) (fun y hy => by
      simp only [List.map_map, List.mem_map, Function.comp] at hy
      obtain ⟨x, hx, rfl⟩ := hy
      obtain ⟨k, h1, h2, h3, h4⟩ := hkeys x hx
      rw [h4]; simpa using h1)
    simpa using h2
  have hdl := it3.le
  refine ⟨l, hl, fun hmem => ?_, hforms, ?_⟩
  · have hperm := hend hmem
    refine (Sort.sort_own w3 ho3 (by omega)).mono ?_
    rintro _ g4 ⟨rfl, l', hp, hris, ho4, s4, n4, w4⟩
    have hL : l' = (fills F n).map fun k : Nat => (k : Int) := by
      refine List.Perm.eq_of_pairwise (le := fun a b : Int => a ≤ b) (fun a b _ _ h1 h2 => Int.le_antisymm h1 h2) ?_ ?_ ?_
      · exact List.Pairwise.imp (fun {x y} hxy => by simp only [Sort.lt, ltI_eq, decide_eq_false_iff_not] at hxy; omega) hris
      · rw [List.pairwise_map]; exact (fills_lt n).imp fun h => by omega
      · refine (hp.trans (hperm.map _)).trans ?_
        have hnd : (s.A.map fun x => (x.1 - s.nx) % 4294967296).Nodup := by
          refine nodup_of (f := fun k : Int => (b + k) % 4294967296) ?_
          rw [List.map_map]
          have : s.A.map ((fun k : Int => (b + k) % 4294967296) ∘ fun x => (x.1 - s.nx) % 4294967296) = s.A.map Prod.fst := List.map_congr_left fun x hx => by
            obtain ⟨k, h1, h2, h3, h4⟩ := hkeys x hx
            simp only [Function.comp, h4]; exact h3.symm
          rw [this]; exact si.nA
        refine (List.perm_ext_iff_of_nodup hnd ((List.pairwise_map.2 ((fills_lt n).imp fun {a b} (h : a < b) => by omega)))).2 fun y => ?_
        rw [List.mem_map, List.mem_map]
        constructor
        · rintro ⟨x, hx, rfl⟩
          obtain ⟨k, h1, h2, h3, h4⟩ := hkeys x hx
          exact ⟨k, mem_fills.2 ⟨by have := fi.lt h2; omega, h2⟩, h4.symm⟩
        · rintro ⟨k, hk, rfl⟩
          obtain ⟨h1, h2⟩ := mem_fills.1 hk
          have hg := si.get k (by omega) (by omega)
          rw [if_pos h2] at hg
          exact ⟨_, mget_in hg, by rw [hnx]; show ((b + k) % 4294967296 - _) % 4294967296 = _; omega⟩
    have hdn : done.length = (fills F n).length := by
      have := ho4.1; rw [hL] at this; simpa using this.symm
    subst hL
    rw [hdn] at *
    have hfl := fills_len F n
    have hil4 : g4.get i = h.get i := by rw [s4 i (fun hj => by have := hG3 i hj; omega) (by omega), s3 i hil]
    refine ⟨fun vs h' => match vs with
      | [.slc a n' f, .int _ k] => ∃ (k' : Nat) (l : List (Int × Int)) (G : List Nat), k = k' ∧ k' ≤ (fills F n).length ∧ l = gaps s.nx ((fills F n).take k') ∧ n' = l.length ∧ Own 2 a n' (gRows l) h' G ∧ (∀ j ∈ G, g4.next ≤ j) ∧ (∀ j, j < g4.next → h'.get j = g4.get j) ∧ h'.wf ∧ g4.next ≤ h'.next
      | _ => False, fun vs _ => match vs with
      | [_, .int _ k] => (fills F n).length - k.toNat
      | _ => 0, ⟨rfl, 0, [], [], rfl, Nat.zero_le _, rfl, rfl, Own.nil _ _, by simp, fun _ _ => rfl, w4, Nat.le_refl _⟩, ?_⟩
    rintro bs2 a2 n2' f2 k g5 ⟨k, L, G5, rfl, hk, hLg, rfl, ho5, hG5, s5, w5, n5⟩
    cases hi : ltI (↑k) (↑(fills F n).length) with
    | false =>
      rw [ltI_eq, decide_eq_false_iff_not] at hi
      obtain rfl : k = (fills F n).length := by omega
      rw [List.take_length] at hLg
      subst hLg
      exact hK _ _ ⟨a2, f2, G5, rfl, ho5, ⟨fun j hj => by rw [s5 j (by omega), s4 j (fun h => by have := hG3 j h; omega) (by omega), s3 j hj], by omega, w5⟩, fun j hj => by have := hG5 j hj; omega⟩
    | true =>
    rw [ltI_eq, decide_eq_true_eq] at hi
    have hk' : k < (fills F n).length := by omega
    have hwk : IntKind.i64.wrap ((k : Int) + 1) = ((k + 1 : Nat) : Int) := by rw [wr (by omega) (by omega)]; rfl
    obtain ⟨fk, hfk⟩ : ∃ fk, (fills F n)[k]? = some fk := ⟨_, List.getElem?_eq_getElem hk'⟩
    have ho4' : Own 1 a1 (fills F n).length (((fills F n).map fun k : Nat => (k : Int)).map fun k => [Sort.en k]) g5 G1 := (Own.rep _ _ _ _).loc _ _ _ (fun j hj => s5 j ((Own.rep _ _ _ _).lt w4 ho4 hj)) ho4
    obtain ⟨qa, qo, row, rfl, hrow, _, hld, _⟩ := ho4'.ld hk'
    have hrow' : row = [Sort.en fk] := by
      rw [List.getElem?_map, List.getElem?_map, hfk] at hrow
      exact (Option.some.inj hrow).symm
    subst hrow'
    have tk : ((k : Int)).toNat = k := by omega
    have e1' : g5.get i = some (.row [.int .u32 s.nx, .slc a s.rd.length f, .map (some m), .int .i64 s.rows, .int .i64 s.most, .bool s.fin, .int .u32 s.en] 1 false) := by rw [s5 i (by omega), hil4]; exact e1
    have hx : IntKind.u32.wrap (s.nx + fk) = (s.nx + fk) % 4294967296 := u32w _
    have hLn : gaps s.nx ((fills F n).take (k + 1)) = gstep s.nx L fk := by
      rw [List.take_add_one, hfk]; show gaps s.nx (_ ++ [fk]) = _; rw [gaps_snoc, ← hLg]
    have hLl : L.length ≤ 400 := by rw [hLg]; have := gaps_len s.nx ((fills F n).take k); rw [List.length_take] at this; omega
    have hnw : IntKind.u32.wrap ((s.nx + fk) % 4294967296 + 1) = ((s.nx + fk) % 4294967296 + 1) % 4294967296 := u32w _
    refine ⟨⟨by omega, hi⟩, fk, by rw [tk]; exact hld 0 (by omega), s.nx, by simp (disch := (first | omega | (simp only [Hp.alloc_next, Hp.set_next] <;> omega) | (simp (disch := (first | omega | (simp only [Hp.alloc_next, Hp.set_next] <;> omega) | fail)) only [Hp.get_set_self, Hp.get_set_ne, Hp.get_alloc_self, Hp.get_alloc_ne, Hp.get_alloc_at, Hp.get_set_at, Hp.set_next, Hp.alloc_next, e1']; done) | fail)) only [Hp.st, Hp.ld, Hp.lda, splice, ble_eq', if_true, if_false, ite_true, ite_false, cond_true, cond_false, decide_true, decide_false, List.length_cons, List.length_nil, List.take_zero, List.take_succ_cons, List.nil_append, List.cons_append, List.append_nil, List.drop_succ_cons, List.drop_zero, List.drop_nil, List.getElem?_cons_succ, List.getElem?_cons_zero, Nat.reduceAdd, Nat.reduceLeDiff, Nat.reduceEqDiff, Nat.zero_add, Nat.add_zero, Nat.le_refl, Nat.zero_le, Nat.succ_ne_self, Nat.mul_one, Int.toNat_natCast, Option.some.injEq, Option.isNone_some, Option.isNone_none, V.int.injEq, V.str.injEq, V.bool.injEq, V.ptr.injEq, V.slc.injEq, V.map.injEq, V.agg.injEq, V.tup.injEq, List.cons.injEq, Prod.mk.injEq, onS, true_and, and_true, and_assoc, exists_and_left, exists_eq_left', forall_eq, heq_eq_eq, reduceCtorEq, Bool.not_true, Bool.not_false, eq_self, not_false_eq_true, Nat.left_eq_add, Nat.add_eq_left, Nat.add_left_cancel_iff, Nat.add_right_cancel_iff, Nat.reduceEqDiff, Nat.one_ne_zero, Hp.get_set_self, Hp.get_set_ne, Hp.get_alloc_self, Hp.get_alloc_ne, Hp.get_alloc_at, Hp.get_set_at, Hp.set_next, Hp.alloc_next, Option.some_ne_none, V.tup.injEq, Option.isSome_some, Option.isSome_none, exists_eq_left, exists_eq, Nat.mul_zero, e1'], ?_⟩
    rw [hx, hwk]
    refine ⟨fun vs h' => match vs with
      | [] => h' = g5 ∧ gstep s.nx L fk = L ++ [((s.nx + fk) % 4294967296, ((s.nx + fk) % 4294967296 + 1) % 4294967296)]
      | _ => False, ?_, ?_⟩
    · cases hlast : L.getLast? with
      | none =>
        have : L = [] := List.getLast?_eq_none_iff.1 hlast
        subst this
        exact ⟨rfl, rfl, rfl⟩
      | some x =>
        obtain ⟨hl0, hlx⟩ := last_get hlast
        have c1 : ltI 0 (↑L.length) = true := by rw [ltI_eq, decide_eq_true_eq]; omega
        have hw1 : IntKind.i64.wrap ((L.length : Int) - 1) = ((L.length - 1 : Nat) : Int) := by rw [wr (by omega) (by omega)]; omega
        rw [c1, hw1]
        obtain ⟨pa, po, prow, rfl, hprow, _, hpld, _⟩ := ho5.ld (k := L.length - 1) (by omega)
        rw [gRows_get hlx] at hprow
        obtain rfl := (Option.some.inj hprow).symm
        have tl : (((L.length - 1 : Nat) : Int)).toNat = L.length - 1 := by omega
        have hto : g5.ld pa (po + (L.length - 1) * 2 + 1) = some (.int .u32 x.2) := hpld 1 (by omega)
        refine ⟨⟨by omega, by omega⟩, x.2, by rw [tl]; exact hto, ?_⟩
        cases hc : x.2 == (s.nx + fk) % 4294967296 with
        | false =>
          rw [beq_eq_false_iff_ne] at hc
          exact ⟨rfl, rfl, by unfold gstep; rw [hlast]; simp only; rw [if_neg hc]⟩
        | true =>
          rw [beq_iff_eq] at hc
          have hgs : gstep s.nx L fk = L.set (L.length - 1) (x.1, ((s.nx + fk) % 4294967296 + 1) % 4294967296) := by unfold gstep; rw [hlast]; simp only; rw [if_pos hc]
          obtain ⟨pa', po', g6, hpe, hst, ho6, s6, n6, w6⟩ := stC ho5 w5 (r1 := [.int .u32 x.1]) (x := .int .u32 x.2) (r2 := []) (gRows_get hlx) (.int .u32 (((s.nx + fk) % 4294967296 + 1) % 4294967296))
          cases hpe
          refine ⟨⟨by omega, by omega⟩, x.2, by rw [tl]; exact hto, ⟨by omega, by omega⟩, g6, ?_, rfl, ⟨k + 1, gstep s.nx L fk, G5, rfl, hk', hLn.symm, ?_, ?_, hG5, fun j hj => ?_, w6, by omega⟩, by simp only [Int.toNat_natCast]; omega⟩
          · rw [tl, hc, hnw]; exact hst
          · rw [hgs, List.length_set]
          · rw [hgs, ← gRows_set]; exact ho6
          · rw [s6 j (fun h => by have := hG5 j h; omega)]; exact s5 j hj
    · rintro bs3 g6 ⟨rfl, hgs⟩
      rintro g7 rfl
      rw [hnw]
      obtain ⟨g8, hx8, ho8, u8, w8⟩ := app57 (f := f2) (c := [.int .u32 ((s.nx + fk) % 4294967296), .int .u32 (((s.nx + fk) % 4294967296 + 1) % 4294967296)]) ho5 w5 (by omega) rfl
      have n8 := u8.le
      refine ⟨_, _, _, g8, hx8, rfl, ⟨k + 1, gstep s.nx L fk, [g6.next + 1], rfl, hk', hLn.symm, ?_, ?_, fun j hj => by rw [List.mem_singleton] at hj; omega, fun j hj => ?_, w8, by omega⟩, by simp only [Int.toNat_natCast]; omega⟩
      · rw [hgs]; simp
      · rw [hgs, ← gRows_snoc]; exact ho8
      · rw [u8.same j (by omega) (fun h => by have := hG5 j h; omega)]; exact s5 j hj
  · intro x y g4 hmem
    obtain ⟨z, hz, rfl, rfl, hent, hs4, hn4, w4, hrest, hnx4⟩ := hstep x y g4 hmem
    have e1' : g4.get i = some (.row [.int .u32 s.nx, .slc a s.rd.length f, .map (some m), .int .i64 s.rows, .int .i64 s.most, .bool s.fin, .int .u32 s.en] 1 false) := by rw [hs4 i (by omega), s3 i hil]; exact e1
    refine ⟨z.1, _, hent, s.nx, by simp (disch := (first | omega | (simp only [Hp.alloc_next, Hp.set_next] <;> omega) | (simp (disch := (first | omega | (simp only [Hp.alloc_next, Hp.set_next] <;> omega) | fail)) only [Hp.get_set_self, Hp.get_set_ne, Hp.get_alloc_self, Hp.get_alloc_ne, Hp.get_alloc_at, Hp.get_set_at, Hp.set_next, Hp.alloc_next, e1']; done) | fail)) only [Hp.st, Hp.ld, Hp.lda, splice, ble_eq', if_true, if_false, ite_true, ite_false, cond_true, cond_false, decide_true, decide_false, List.length_cons, List.length_nil, List.take_zero, List.take_succ_cons, List.nil_append, List.cons_append, List.append_nil, List.drop_succ_cons, List.drop_zero, List.drop_nil, List.getElem?_cons_succ, List.getElem?_cons_zero, Nat.reduceAdd, Nat.reduceLeDiff, Nat.reduceEqDiff, Nat.zero_add, Nat.add_zero, Nat.le_refl, Nat.zero_le, Nat.succ_ne_self, Nat.mul_one, Int.toNat_natCast, Option.some.injEq, Option.isNone_some, Option.isNone_none, V.int.injEq, V.str.injEq, V.bool.injEq, V.ptr.injEq, V.slc.injEq, V.map.injEq, V.agg.injEq, V.tup.injEq, List.cons.injEq, Prod.mk.injEq, onS, true_and, and_true, and_assoc, exists_and_left, exists_eq_left', forall_eq, heq_eq_eq, reduceCtorEq, Bool.not_true, Bool.not_false, eq_self, not_false_eq_true, Nat.left_eq_add, Nat.add_eq_left, Nat.add_left_cancel_iff, Nat.add_right_cancel_iff, Nat.reduceEqDiff, Nat.one_ne_zero, Hp.get_set_self, Hp.get_set_ne, Hp.get_alloc_self, Hp.get_alloc_ne, Hp.get_alloc_at, Hp.get_set_at, Hp.set_next, Hp.alloc_next, Option.some_ne_none, V.tup.injEq, Option.isSome_some, Option.isSome_none, exists_eq_left, exists_eq, Nat.mul_zero, e1'], ?_⟩
    rintro g5 rfl
    rw [u32w]
    have ho4 := (Own.rep _ _ _ _).loc _ _ _ (fun j hj => hs4 j (by have := hG3 j hj; omega)) ho3
    obtain ⟨g6, hx6, ho6, u6, w6⟩ := app77 (f := f1) (c := [.int .u32 ((z.1 - s.nx) % 4294967296)]) ho4 w4 (by omega) rfl
    have n6 := u6.le
    obtain ⟨i5, lt5⟩ := hnx4 g6 (u6.same _ (by omega) (fun h => by have := hG3 _ h; omega)) (u6.same _ (by omega) (fun h => by have := hG3 _ h; omega))
    refine ⟨_, _, _, g6, hx6, rfl, ⟨done ++ [z], [g4.next + 1], i5, by simp, ?_, fun j hj => by rw [List.mem_singleton] at hj; omega, fun j hj => ?_, w6, by omega⟩, lt5⟩
    · simp only [List.map_append, List.map_cons, List.map_nil]; exact ho6
    · rw [u6.same j (by omega) (fun h => by have := hG3 _ h; omega), hs4 j (by omega)]; exact s3 j hj
end

end Go.Vex.In
