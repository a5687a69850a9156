/-
  VEX, part AA: maps that a structure owns: looked up, put, taken out, counted; 'm[k] op= v'.
-/
import Derived.Test.YtkfnokgfgcfldaaGreatVexZ
set_option linter.unusedSimpArgs false
set_option linter.unusedVariables false
namespace Go.Vex

/-- keys that are told apart as their abstract ones are -/
structure KL {κ : Type} [DecidableEq κ] (T : TT) (kt : TypeId) (kV : κ → V) : Prop where
  key : ∀ a, xkey T 12 kt (kV a) = true
  eq : ∀ a b, veq T 12 kt (kV a) (kV b) = some (decide (a = b))
  peq : ∀ a, peq (kV a) (kV a) = true

section
variable {κ β : Type} [DecidableEq κ]

def mget (l : List (κ × β)) (k : κ) : Option β := (l.find? fun x => decide (k = x.1)).map (·.2)

def mput (l : List (κ × β)) (k : κ) (v : β) : List (κ × β) :=
  match l with
  | [] => [(k, v)]
  | x :: r => if k = x.1 then (x.1, v) :: r else x :: mput r k v

def mdel (l : List (κ × β)) (k : κ) : List (κ × β) :=
  match l with
  | [] => []
  | x :: r => if k = x.1 then r else x :: mdel r k

/-- object m is a map with these entries, in this order -/
def MapIs (kV : κ → V) (vV : β → V) (l : List (κ × β)) (m : Nat) (h : Hp) (F : List Nat) : Prop :=
  F = [m] ∧ ∃ es clk, h.get m = some (.map es clk) ∧ es.map Ent.key = l.map (fun x => kV x.1) ∧ es.map Ent.val = l.map (fun x => vV x.2) ∧ (∀ e ∈ es, e.born < clk) ∧ (es.map Ent.born).Nodup

omit [DecidableEq κ] in
theorem MapIs.rep (kV : κ → V) (vV : β → V) (l : List (κ × β)) (m : Nat) : Rep (MapIs kV vV l m) where
  loc := fun h h' F hs ⟨h1, es, clk, h2, h3⟩ => by
    subst h1
    exact ⟨rfl, es, clk, by rw [hs m (by simp)]; exact h2, h3⟩
  dom := fun h F ⟨h1, es, clk, h2, h3⟩ j hj => by
    subst h1
    rw [List.mem_singleton] at hj
    subst hj
    exact ⟨_, h2, rfl⟩

variable {T : TT} {kt : TypeId} {kV : κ → V} {vV : β → V}

/-- where the key stands -/
def midx (k : κ) : List (κ × β) → Nat → Option Nat
  | [], _ => none
  | x :: r, i => if k = x.1 then some i else midx k r (i + 1)

theorem xfind_of (K : KL T kt kV) (k : κ) : ∀ (es : List Ent) (l : List (κ × β)) (i : Nat), es.map Ent.key = l.map (fun x => kV x.1) → xfind T kt (kV k) es i = some (midx k l i)
  | [], [], i, _ => rfl
  | [], _ :: _, _, h => by simp at h
  | _ :: _, [], _, h => by simp at h
  | e :: es, x :: l, i, h => by
    simp only [List.map_cons, List.cons.injEq] at h
    simp only [xfind, h.1, K.eq, midx]
    by_cases hk : k = x.1
    · simp [hk]
    · simp only [hk, decide_false, if_false]
      exact xfind_of K k es l (i + 1) h.2

theorem midx_lt (k : κ) : ∀ (l : List (κ × β)) (i j : Nat), midx k l i = some j → i ≤ j ∧ ∃ x, l[j - i]? = some x ∧ x.1 = k
  | [], _, _, h => by simp [midx] at h
  | x :: l, i, j, h => by
    simp only [midx] at h
    split at h
    · rename_i hk
      cases h
      exact ⟨Nat.le_refl _, x, by simp, hk.symm⟩
    · obtain ⟨h1, y, h2, h3⟩ := midx_lt k l (i + 1) j h
      refine ⟨by omega, y, ?_, h3⟩
      rw [show j - i = (j - (i + 1)) + 1 from by omega]
      simpa using h2

theorem mget_midx (k : κ) : ∀ (l : List (κ × β)) (i : Nat), mget l k = match midx k l i with | some j => (l[j - i]?).map (·.2) | none => none
  | [], _ => rfl
  | x :: l, i => by
    simp only [midx, mget, List.find?_cons]
    by_cases hk : k = x.1
    · simp [hk]
    · simp only [hk, decide_false, if_false]
      have := mget_midx k l (i + 1)
      simp only [mget] at this
      rw [this]
      split
      · rename_i j hj
        obtain ⟨h1, _⟩ := midx_lt k l (i + 1) j hj
        rw [show j - i = (j - (i + 1)) + 1 from by omega]
        simp
      · rfl

theorem mput_midx (k : κ) (v : β) : ∀ (l : List (κ × β)) (i : Nat), mput l k v = match midx k l i with | some j => l.set (j - i) (k, v) | none => l ++ [(k, v)]
  | [], _ => rfl
  | x :: l, i => by
    simp only [midx, mput]
    by_cases hk : k = x.1
    · simp [hk]
    · simp only [hk, if_false]
      rw [mput_midx k v l (i + 1)]
      split
      · rename_i j hj
        obtain ⟨h1, _⟩ := midx_lt k l (i + 1) j hj
        rw [show j - i = (j - (i + 1)) + 1 from by omega]
        simp
      · simp

theorem mdel_midx (k : κ) : ∀ (l : List (κ × β)) (i : Nat), mdel l k = match midx k l i with | some j => l.eraseIdx (j - i) | none => l
  | [], _ => rfl
  | x :: l, i => by
    simp only [midx, mdel]
    by_cases hk : k = x.1
    · simp [hk]
    · simp only [hk, if_false]
      rw [mdel_midx k l (i + 1)]
      split
      · rename_i j hj
        obtain ⟨h1, _⟩ := midx_lt k l (i + 1) j hj
        rw [show j - i = (j - (i + 1)) + 1 from by omega]
        simp
      · simp

variable {l : List (κ × β)} {m : Nat} {h : Hp} {F : List Nat} {t et : TypeId} {ti ei : TI} {z : V}

theorem MapIs.look (K : KL T kt kV) (hm : MapIs kV vV l m h F) (ht : T t = some ti) (hd : ti.d = .map kt et) (he : T et = some ei) (hz : ei.zero = some z) (k : κ) (ok : Bool) :
    xlook T h t (.map (some m)) (kV k) ok = match mget l k with
      | some v => some (bif ok then .tup [vV v, .bool true] else vV v)
      | none => some (bif ok then .tup [z, .bool false] else z) := by
  obtain ⟨_, es, clk, hg, h1, h2, _⟩ := hm
  simp only [xlook, ht, hd, K.key, cond_true, he, hz, hg, xfind_of K k es l 0 h1]
  rw [mget_midx k l 0]
  cases hj : midx k l 0 with
  | none => rfl
  | some j =>
    obtain ⟨_, x, hx, _⟩ := midx_lt k l 0 j hj
    simp only [Nat.sub_zero] at hx ⊢
    have hv : (es.map Ent.val)[j]? = some (vV x.2) := by rw [h2, List.getElem?_map, hx]; rfl
    rw [List.getElem?_map, Option.map_eq_some_iff] at hv
    obtain ⟨e, he', hv⟩ := hv
    simp only [hx, he', hv, Option.map_some]

omit [DecidableEq κ] in
theorem MapIs.len (hm : MapIs kV vV l m h F) (ht : T t = some ti) (hd : ti.d = .map kt et) : xlen T h t (.map (some m)) = some (.int .i64 l.length) := by
  obtain ⟨_, es, clk, hg, h1, _⟩ := hm
  have : es.length = l.length := by have := congrArg List.length h1; simpa using this
  simp [xlen, ht, hd, hg, this]

theorem nodup_set {α : Type} (l : List α) (j : Nat) (x : α) (hx : l[j]? = some x) : l.set j x = l := by
  apply List.ext_getElem?
  intro i
  rw [List.getElem?_set]
  split
  · rename_i e; subst e
    split
    · exact hx.symm
    · rw [List.getElem?_eq_none (by omega)]
  · rfl

theorem map_eraseIdx' {α γ : Type} (f : α → γ) : ∀ (l : List α) (j : Nat), (l.eraseIdx j).map f = (l.map f).eraseIdx j
  | [], _ => by simp
  | x :: l, 0 => by simp
  | x :: l, j + 1 => by simp [map_eraseIdx' f l j]

/-- 'm[k] = v' -/
theorem MapIs.put (K : KL T kt kV) (hm : MapIs kV vV l m h F) (ht : T t = some ti) (hd : ti.d = .map kt et) (k : κ) (v : β) :
    ∃ h', xput T h t (.map (some m)) (kV k) (vV v) = some h' ∧ MapIs kV vV (mput l k v) m h' F ∧ (∀ j, j ≠ m → h'.get j = h.get j) ∧ h'.next = h.next := by
  obtain ⟨rfl, es, clk, hg, h1, h2, h3, h4⟩ := hm
  have hlen : es.length = l.length := by have := congrArg List.length h1; simpa using this
  rw [mput_midx k v l 0]
  cases hj : midx k l 0 with
  | none =>
    refine ⟨h.set m (.map (es ++ [⟨kV k, vV v, clk⟩]) (clk + 1)), ?_, ⟨rfl, es ++ [⟨kV k, vV v, clk⟩], clk + 1, Hp.get_set_self, by simp [h1], by simp [h2], ?_, ?_⟩, fun j hj => Hp.get_set_ne hj, rfl⟩
    · simp [xput, ht, hd, hg, K.key, xfind_of K k es l 0 h1, hj]
    · intro e he
      rcases List.mem_append.1 he with he | he
      · have := h3 e he; omega
      · rw [List.mem_singleton] at he; subst he; exact Nat.lt_succ_self _
    · rw [List.map_append, List.nodup_append]
      refine ⟨h4, by simp, ?_⟩
      intro a ha b hb
      simp at hb
      obtain ⟨e, he, rfl⟩ := List.mem_map.1 ha
      have := h3 e he
      omega
  | some j =>
    obtain ⟨_, x, hx, hxk⟩ := midx_lt k l 0 j hj
    simp only [Nat.sub_zero] at hx ⊢
    have hkey : (es.map Ent.key)[j]? = some (kV k) := by rw [h1, List.getElem?_map, hx, ← hxk]; rfl
    rw [List.getElem?_map, Option.map_eq_some_iff] at hkey
    obtain ⟨e, he', hke⟩ := hkey
    have hjl : j < es.length := (List.getElem?_eq_some_iff.1 he').1
    refine ⟨h.set m (.map (es.set j ⟨kV k, vV v, e.born⟩) clk), ?_, ⟨rfl, _, clk, Hp.get_set_self, ?_, ?_, ?_, ?_⟩, fun j hj => Hp.get_set_ne hj, rfl⟩
    · simp [xput, ht, hd, hg, K.key, xfind_of K k es l 0 h1, hj, he', hke, K.peq]
    · rw [List.map_set, List.map_set, h1]
    · rw [List.map_set, List.map_set, h2]
    · intro y hy
      rcases List.mem_or_eq_of_mem_set hy with hy | hy
      · exact h3 y hy
      · subst hy; exact h3 e (List.mem_of_getElem? he')
    · rw [List.map_set, nodup_set (es.map Ent.born) j e.born (by rw [List.getElem?_map, he']; rfl)]
      exact h4

/-- 'delete(m, k)' -/
theorem MapIs.del (K : KL T kt kV) (hm : MapIs kV vV l m h F) (ht : T t = some ti) (hd : ti.d = .map kt et) (k : κ) :
    ∃ h', xdel T h t (.map (some m)) (kV k) = some h' ∧ MapIs kV vV (mdel l k) m h' F ∧ (∀ j, j ≠ m → h'.get j = h.get j) ∧ h'.next = h.next := by
  obtain ⟨rfl, es, clk, hg, h1, h2, h3, h4⟩ := hm
  rw [mdel_midx k l 0]
  cases hj : midx k l 0 with
  | none =>
    refine ⟨h.set m (.map es clk), ?_, ⟨rfl, es, clk, Hp.get_set_self, h1, h2, h3, h4⟩, fun j hj => Hp.get_set_ne hj, rfl⟩
    simp [xdel, ht, hd, hg, K.key, xfind_of K k es l 0 h1, hj]
  | some j =>
    simp only [Nat.sub_zero]
    refine ⟨h.set m (.map (es.eraseIdx j) clk), ?_, ⟨rfl, _, clk, Hp.get_set_self, ?_, ?_, fun e he => h3 e (List.mem_of_mem_eraseIdx he), ?_⟩, fun j hj => Hp.get_set_ne hj, rfl⟩
    · simp [xdel, ht, hd, hg, K.key, xfind_of K k es l 0 h1, hj]
    · rw [map_eraseIdx', map_eraseIdx', h1]
    · rw [map_eraseIdx', map_eraseIdx', h2]
    · rw [map_eraseIdx']
      exact h4.sublist (List.eraseIdx_sublist _ _)

omit [DecidableEq κ] in
/-- a new map -/
theorem MapIs.nil (kV : κ → V) (vV : β → V) (h : Hp) : MapIs kV vV ([] : List (κ × β)) h.next (h.alloc (.map [] 0)) [h.next] := ⟨rfl, [], 0, Hp.get_alloc_self, rfl, rfl, by simp, by simp⟩

/-! ### keys -/

theorem KL.int {ti : TI} {k : IntKind} (ht : T kt = some ti) (hd : ti.d = .int k) : KL T kt (fun n : Int => V.int k n) where
  key := fun a => by simp [xkey, ht, hd]
  eq := fun a b => by simp [veq, ht, hd]; exact decide_eq_decide.2 Iff.rfl
  peq := fun a => by simp [Go.Vex.peq, peq1]

theorem KL.str {ti : TI} (ht : T kt = some ti) (hd : ti.d = .str) : KL T kt (fun s : List UInt8 => V.str s) where
  key := fun a => by simp [xkey, ht, hd]
  eq := fun a b => by simp only [veq, ht, hd]; congr 1; exact Bool.eq_iff_iff.2 (by simp)
  peq := fun a => by simp [Go.Vex.peq, peq1]
end
end Go.Vex
