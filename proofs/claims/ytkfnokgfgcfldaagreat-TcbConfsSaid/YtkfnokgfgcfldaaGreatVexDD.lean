/-
  VEX, part DD: map objects as data: what is looked up, put, taken out, as rewriting rules over any heap that has the object.
-/
import Derived.Test.YtkfnokgfgcfldaaGreatVexCC
set_option linter.unusedSimpArgs false
set_option linter.unusedVariables false
namespace Go.Vex

section
variable {κ β : Type}

/-- object o is a map with these entries, in this order -/
def MO (kV : κ → V) (vV : β → V) (l : List (κ × β)) (o : O) : Prop :=
  ∃ es clk, o = .map es clk ∧ es.map Ent.key = l.map (fun x => kV x.1) ∧ es.map Ent.val = l.map (fun x => vV x.2) ∧ (∀ e ∈ es, e.born < clk) ∧ (es.map Ent.born).Nodup

theorem MO.is {kV : κ → V} {vV : β → V} {l : List (κ × β)} {o : O} (ho : MO kV vV l o) {m : Nat} {h : Hp} (hg : h.get m = some o) : MapIs kV vV l m h [m] := by
  obtain ⟨es, clk, rfl, h1⟩ := ho
  exact ⟨rfl, es, clk, hg, h1⟩

theorem MapIs.mo {kV : κ → V} {vV : β → V} {l : List (κ × β)} {m : Nat} {h : Hp} {F : List Nat} (hm : MapIs kV vV l m h F) : ∃ o, h.get m = some o ∧ MO kV vV l o := by
  obtain ⟨_, es, clk, hg, h1⟩ := hm
  exact ⟨_, hg, es, clk, rfl, h1⟩

theorem MO.nil (kV : κ → V) (vV : β → V) : MO kV vV ([] : List (κ × β)) (.map [] 0) := ⟨[], 0, rfl, rfl, rfl, by simp, by simp⟩

theorem MO.rw {kV : κ → V} {vV : β → V} {l : List (κ × β)} {o : O} (ho : MO kV vV l o) : o.rw = true := by
  obtain ⟨es, clk, rfl, _⟩ := ho; rfl

variable [DecidableEq κ] {T : TT} {t kt et : TypeId} {ti ei : TI} {z : V} {kV : κ → V} {vV : β → V} {l : List (κ × β)} {o : O}

/-- the map of a type, its keys and its elements' zero -/
structure MT (T : TT) (t : TypeId) (kV : κ → V) (z : V) : Prop where
  ex : ∃ ti kt et ei, T t = some ti ∧ ti.d = .map kt et ∧ T et = some ei ∧ ei.zero = some z ∧ KL T kt kV

/-- what a look-up brings -/
def lookV (vV : β → V) (z : V) : Option β → V
  | some v => vV v
  | none => z

theorem lookV_getD (vV : β → V) (z : β) (o : Option β) : lookV vV (vV z) o = vV (o.getD z) := by cases o <;> rfl

theorem MO.look (ho : MO kV vV l o) (M : MT T t kV z) (k : κ) : ∀ h m, h.get m = some o → xlook T h t (.map (some m)) (kV k) false = some (lookV vV z (mget l k)) := fun h m hg => by
  obtain ⟨ti, kt, et, ei, ht, hd, he, hz, K⟩ := M.ex
  have := (ho.is hg).look K ht hd he hz k false
  rw [this]; cases mget l k <;> rfl

theorem MO.look2 (ho : MO kV vV l o) (M : MT T t kV z) (k : κ) : ∀ h m, h.get m = some o → xlook T h t (.map (some m)) (kV k) true = some (.tup [lookV vV z (mget l k), .bool (mget l k).isSome]) := fun h m hg => by
  obtain ⟨ti, kt, et, ei, ht, hd, he, hz, K⟩ := M.ex
  have := (ho.is hg).look K ht hd he hz k true
  rw [this]; cases mget l k <;> rfl

theorem MO.len (ho : MO kV vV l o) (M : MT T t kV z) : ∀ h m, h.get m = some o → xlen T h t (.map (some m)) = some (.int .i64 l.length) := fun h m hg => by
  obtain ⟨ti, kt, et, ei, ht, hd, he, hz, K⟩ := M.ex
  exact (ho.is hg).len ht hd

theorem MO.put (ho : MO kV vV l o) (M : MT T t kV z) (k : κ) (v : β) : ∃ o', MO kV vV (mput l k v) o' ∧ ∀ h m, h.get m = some o → xput T h t (.map (some m)) (kV k) (vV v) = some (h.set m o') := by
  obtain ⟨ti, kt, et, ei, ht, hd, he, hz, K⟩ := M.ex
  obtain ⟨es, clk, rfl, h1, h2, h3, h4⟩ := ho
  have key : ∃ o', ∀ h m, h.get m = some (.map es clk) → xput T h t (.map (some m)) (kV k) (vV v) = some (h.set m o') := by
    have hf := xfind_of K k es l 0 h1
    cases hj : midx k l 0 with
    | none => exact ⟨_, fun h m hg => by simp only [xput, ht, hd, K.key, cond_true, hf, hg, hj]; rfl⟩
    | some j =>
      obtain ⟨_, x, hx, hxk⟩ := midx_lt k l 0 j hj
      have hkey : (es.map Ent.key)[j]? = some (kV k) := by rw [h1, List.getElem?_map, show l[j]? = some x from hx, ← hxk]; rfl
      rw [List.getElem?_map, Option.map_eq_some_iff] at hkey
      obtain ⟨e, he', hke⟩ := hkey
      exact ⟨_, fun h m hg => by simp only [xput, ht, hd, K.key, cond_true, hf, hg, hj, he', hke, K.peq]; rfl⟩
  obtain ⟨o', ho'⟩ := key
  refine ⟨o', ?_, ho'⟩
  have hg0 : ((⟨.nil, 0⟩ : Hp).set 0 (.map es clk)).get 0 = some (.map es clk) := Hp.get_set_self
  obtain ⟨h', hx, hm, hs, hn⟩ := (show MapIs kV vV l 0 ((⟨.nil, 0⟩ : Hp).set 0 (.map es clk)) [0] from ⟨rfl, es, clk, hg0, h1, h2, h3, h4⟩).put K ht hd k v
  rw [ho' _ _ hg0] at hx
  cases hx
  obtain ⟨o2, hg2, hm2⟩ := hm.mo
  rw [Hp.get_set_self] at hg2
  cases hg2
  exact hm2

theorem MO.del (ho : MO kV vV l o) (M : MT T t kV z) (k : κ) : ∃ o', MO kV vV (mdel l k) o' ∧ ∀ h m, h.get m = some o → xdel T h t (.map (some m)) (kV k) = some (h.set m o') := by
  obtain ⟨ti, kt, et, ei, ht, hd, he, hz, K⟩ := M.ex
  obtain ⟨es, clk, rfl, h1, h2, h3, h4⟩ := ho
  have key : ∃ o', ∀ h m, h.get m = some (.map es clk) → xdel T h t (.map (some m)) (kV k) = some (h.set m o') := by
    have hf := xfind_of K k es l 0 h1
    cases hj : midx k l 0 with
    | none => exact ⟨_, fun h m hg => by simp only [xdel, ht, hd, K.key, cond_true, hf, hg, hj]; rfl⟩
    | some j => exact ⟨_, fun h m hg => by simp only [xdel, ht, hd, K.key, cond_true, hf, hg, hj]; rfl⟩
  obtain ⟨o', ho'⟩ := key
  refine ⟨o', ?_, ho'⟩
  have hg0 : ((⟨.nil, 0⟩ : Hp).set 0 (.map es clk)).get 0 = some (.map es clk) := Hp.get_set_self
  obtain ⟨h', hx, hm, hs, hn⟩ := (show MapIs kV vV l 0 ((⟨.nil, 0⟩ : Hp).set 0 (.map es clk)) [0] from ⟨rfl, es, clk, hg0, h1, h2, h3, h4⟩).del K ht hd k
  rw [ho' _ _ hg0] at hx
  cases hx
  obtain ⟨o2, hg2, hm2⟩ := hm.mo
  rw [Hp.get_set_self] at hg2
  cases hg2
  exact hm2
end

section
variable {κ β : Type} {kV : κ → V} {vV : β → V} {cur : List ((κ × β) × Nat)} {m it : Nat} {sn : List Nat} {h : Hp}

theorem MapIter.mo (i : MapIter kV vV cur m it sn h) : ∃ o, h.get m = some o ∧ MO kV vV (cur.map Prod.fst) o := by
  obtain ⟨hn, clk, hg, hb, _⟩ := i
  refine ⟨_, hg, _, clk, rfl, by simp [mkE, Function.comp_def], by simp [mkE, Function.comp_def], fun e he => ?_, by simpa [mkE, Function.comp_def] using hn⟩
  obtain ⟨z, hz, rfl⟩ := List.mem_map.1 he
  exact hb z hz

theorem erase_born : ∀ {cur : List ((κ × β) × Nat)} {j : Nat} {z : (κ × β) × Nat}, (cur.map Prod.snd).Nodup → cur[j]? = some z → cur.eraseIdx j = cur.filter fun y => !(y.2 == z.2)
  | [], j, z, _, h => by simp at h
  | y :: cur, 0, z, hn, h => by
    simp only [List.getElem?_cons_zero, Option.some.injEq] at h
    subst h
    rw [List.map_cons, List.nodup_cons] at hn
    rw [List.eraseIdx_cons_zero, List.filter_cons_of_neg (by simp)]
    symm
    apply List.filter_eq_self.2
    intro x hx
    simp only [Bool.not_eq_eq_eq_not, Bool.not_true, beq_eq_false_iff_ne]
    exact fun e => hn.1 (by rw [← e]; exact List.mem_map_of_mem hx)
  | y :: cur, j + 1, z, hn, h => by
    simp only [List.getElem?_cons_succ] at h
    rw [List.map_cons, List.nodup_cons] at hn
    have hne : y.2 ≠ z.2 := fun e => hn.1 (by rw [e]; exact List.mem_map_of_mem (List.mem_of_getElem? h))
    rw [List.eraseIdx_cons_succ, List.filter_cons_of_pos (by simpa using hne), erase_born hn.2 h]

/-- the entry that came last is taken out -/
theorem MapIter.del [DecidableEq κ] {T : TT} {t kt et : TypeId} {ti : TI} (i : MapIter kV vV cur m it sn h) (K : KL T kt kV) (ht : T t = some ti) (hd : ti.d = .map kt et) (hmi : m ≠ it) (hk : (cur.map fun z => z.1.1).Nodup) {z : (κ × β) × Nat} (hz : z ∈ cur) :
    ∃ o', xdel T h t (.map (some m)) (kV z.1.1) = some (h.set m o') ∧ MapIter kV vV (cur.filter fun y => !(y.2 == z.2)) m it sn (h.set m o') := by
  obtain ⟨hn, clk, hg, hb, hi⟩ := i
  have hkeys : (cur.map (mkE kV vV)).map Ent.key = (cur.map Prod.fst).map fun x => kV x.1 := by simp [mkE, Function.comp_def]
  have hf := xfind_of K z.1.1 (cur.map (mkE kV vV)) (cur.map Prod.fst) 0 hkeys
  obtain ⟨j, hj⟩ := List.getElem?_of_mem hz
  have hmid : ∀ (l : List ((κ × β) × Nat)) (j i : Nat), (l.map fun z => z.1.1).Nodup → l[j]? = some z → midx z.1.1 (l.map Prod.fst) i = some (i + j) := by
    intro l
    induction l with
    | nil => intro j i _ h; simp at h
    | cons y l ih =>
      intro j i hk h
      rw [List.map_cons, List.nodup_cons] at hk
      cases j with
      | zero =>
        simp only [List.getElem?_cons_zero, Option.some.injEq] at h
        subst h
        simp [midx]
      | succ j =>
        simp only [List.getElem?_cons_succ] at h
        have hne : z.1.1 ≠ y.1.1 := fun e => hk.1 (by rw [← e]; exact List.mem_map.2 ⟨z, List.mem_of_getElem? h, rfl⟩)
        simp only [List.map_cons, midx, if_neg hne]
        rw [ih j (i + 1) hk.2 h]
        congr 1; omega
  rw [hmid cur j 0 hk hj, Nat.zero_add] at hf
  refine ⟨.map ((cur.map (mkE kV vV)).eraseIdx j) clk, by simp only [xdel, ht, hd, hg, K.key, cond_true, hf], ?_, clk, ?_, ?_, by rw [Hp.get_set_ne (Ne.symm hmi)]; exact hi⟩
  · exact hn.sublist (List.Sublist.map _ List.filter_sublist)
  · rw [Hp.get_set_self, map_eraseIdx'', erase_born hn hj]
  · exact fun y hy => hb y (List.mem_filter.1 hy).1
where
  map_eraseIdx'' : ∀ {α γ : Type} {f : α → γ} {l : List α} {j : Nat}, (l.map f).eraseIdx j = (l.eraseIdx j).map f := by
    intro α γ f l j; rw [map_eraseIdx']
end

theorem inj_nodup {α γ : Type} {f : α → γ} : ∀ {l : List α}, (l.map f).Nodup → ∀ {x y : α}, x ∈ l → y ∈ l → f x = f y → x = y
  | [], _, _, _, h, _, _ => by cases h
  | z :: l, hn, x, y, hx, hy, e => by
    rw [List.map_cons, List.nodup_cons] at hn
    rcases List.mem_cons.1 hx with hx' | hx'
    · rcases List.mem_cons.1 hy with hy' | hy'
      · rw [hx', hy']
      · subst hx'
        exact absurd (by rw [e]; exact List.mem_map_of_mem hy') hn.1
    · rcases List.mem_cons.1 hy with hy' | hy'
      · subst hy'
        exact absurd (by rw [← e]; exact List.mem_map_of_mem hx') hn.1
      · exact inj_nodup hn.2 hx' hy' e

/-! ### the records of loops, at hand -/

theorem Hp.get_alloc_at {h : Hp} {j : Nat} {o : O} (e1 : j ≤ h.next) (e2 : h.next ≤ j) : (h.alloc o).get j = some o := by rw [Nat.le_antisymm e1 e2]; exact Hp.get_alloc_self
theorem Hp.get_set_at {h : Hp} {i j : Nat} {o : O} (e1 : j ≤ i) (e2 : i ≤ j) : (h.set i o).get j = some o := by rw [Nat.le_antisymm e1 e2]; exact Hp.get_set_self
theorem Hp.set_next (h : Hp) (i : Nat) (o : O) : (h.set i o).next = h.next := rfl
theorem Hp.alloc_next (h : Hp) (o : O) : (h.alloc o).next = h.next + 1 := rfl
theorem Hp.kill_next (h : Hp) (i : Nat) : (h.kill i).next = h.next := rfl
/-! ### arguments -/

theorem cell_intB {P : Program} {W : World} {r : Reach} {b0 : Nat} {u : TypeId} {k : IntKind} {x : Value} (hu : P.underlying u = some (.int k)) (h : Cell.okWide P W r b0 u x) : ∃ n, x = .int k n ∧ k.min ≤ n ∧ n ≤ k.max := by
  obtain ⟨n, rfl⟩ := cell_int hu h
  unfold Cell.okWide at h
  rw [hu] at h
  simp only at h
  unfold Cell.ok at h
  rw [hu] at h
  exact ⟨n, rfl, h.2⟩

theorem lit_bnd {k : IntKind} {n : Int} (h : (Lit.int k n).wf = true) : k.min ≤ n ∧ n ≤ k.max := by
  simpa only [Lit.wf, Bool.and_eq_true, decide_eq_true_eq] using h
end Go.Vex
