/-
  VEX, part FF: keys of several cells; 'm[k], .. = ..' in two strokes; slices of one cell that are written and cleared in place.
-/
import Derived.Test.YtkfnokgfgcfldaaGreatVexEE
set_option linter.unusedSimpArgs false
set_option linter.unusedVariables false
namespace Go.Vex

section
variable {κ β : Type}

theorem born_at : ∀ {es : List Ent} {j : Nat} {e : Ent} (i : Nat), (es.map Ent.born).Nodup → es[j]? = some e → xborn (e.born : Int) es i = some (i + j)
  | [], j, e, i, _, h => by simp at h
  | x :: es, 0, e, i, hn, h => by
    simp only [List.getElem?_cons_zero, Option.some.injEq] at h
    subst h
    simp [xborn]
  | x :: es, j + 1, e, i, hn, h => by
    rw [List.map_cons, List.nodup_cons] at hn
    rw [List.getElem?_cons_succ] at h
    have hne : (x.born : Int) ≠ (e.born : Int) := fun eq => hn.1 (by
      have : x.born = e.born := by omega
      rw [this]; exact List.mem_map_of_mem (List.mem_of_getElem? h))
    simp only [xborn, hne, decide_false, cond_false]
    rw [born_at (i + 1) hn.2 h]
    congr 1; omega

variable [DecidableEq κ] {T : TT} {t : TypeId} {z : β} {kV : κ → V} {vV : β → V} {l : List (κ × β)} {o : O}

theorem MO.entry (ho : MO kV vV l o) (M : MT T t kV (vV z)) (k : κ) (v : β) : ∃ (o1 o2 : O) (w : β) (n : Int), MO kV vV (mput l k v) o2 ∧
    (∀ h m, h.get m = some o → xmapEntry T h t (.map (some m)) (kV k) = some (.tup [vV w, .int .i64 n], h.set m o1)) ∧ ∀ h m, h.get m = some o1 → xentryStore h (.map (some m)) (.int .i64 n) (vV v) = some (h.set m o2) := by
  obtain ⟨ti, kt, et, ei, ht, hd, he, hz, K⟩ := M.ex
  obtain ⟨es, clk, rfl, h1, h2, h3, h4⟩ := ho
  have hlen : es.length = l.length := by have := congrArg List.length h1; simpa using this
  have hf := xfind_of K k es l 0 h1
  rw [mput_midx k v l 0]
  cases hj : midx k l 0 with
  | none =>
    have hn : ((es ++ [(⟨kV k, vV z, clk⟩ : Ent)]).map Ent.born).Nodup := by
      rw [List.map_append, List.nodup_append]
      refine ⟨h4, by simp, ?_⟩
      intro a ha b hb
      simp at hb
      obtain ⟨e, he, rfl⟩ := List.mem_map.1 ha
      have := h3 e he
      omega
    have hat : (es ++ [(⟨kV k, vV z, clk⟩ : Ent)])[es.length]? = some ⟨kV k, vV z, clk⟩ := by simp
    refine ⟨.map (es ++ [⟨kV k, vV z, clk⟩]) (clk + 1), .map (es ++ [⟨kV k, vV v, clk⟩]) (clk + 1), z, clk, ⟨_, _, rfl, by simp [h1], by simp [h2], ?_, ?_⟩, fun h m hg => ?_, fun h m hg => ?_⟩
    · intro e he
      rcases List.mem_append.1 he with he | he
      · have := h3 e he; omega
      · rw [List.mem_singleton] at he; subst he; exact Nat.lt_succ_self _
    · simpa using hn
    · simp only [xmapEntry, ht, hd, hg, he, K.key, cond_true, hf, hj, hz]
    · have hb := born_at 0 hn hat
      simp only [Nat.zero_add] at hb
      simp only [xentryStore, hg, hb, hat]
      congr 3
      rw [List.set_append_right _ _ (Nat.le_refl _), Nat.sub_self]; rfl
  | some j =>
    obtain ⟨_, x, hx, hxk⟩ := midx_lt k l 0 j hj
    simp only [Nat.sub_zero] at hx ⊢
    have hkey : (es.map Ent.key)[j]? = some (kV k) := by rw [h1, List.getElem?_map, hx, ← hxk]; rfl
    have hval : (es.map Ent.val)[j]? = some (vV x.2) := by rw [h2, List.getElem?_map, hx]; rfl
    rw [List.getElem?_map, Option.map_eq_some_iff] at hkey hval
    obtain ⟨e, he', hke⟩ := hkey
    obtain ⟨e2, he2, hve⟩ := hval
    rw [he'] at he2
    cases he2
    have hjl : j < es.length := (List.getElem?_eq_some_iff.1 he').1
    have hbs : ∀ y : V, ((es.set j ⟨kV k, y, e.born⟩).map Ent.born) = es.map Ent.born := fun y => by
      rw [List.map_set, nodup_set (es.map Ent.born) j e.born (by rw [List.getElem?_map, he']; rfl)]
    have hat : (es.set j (⟨kV k, e.val, e.born⟩ : Ent))[j]? = some ⟨kV k, e.val, e.born⟩ := by rw [List.getElem?_set_self hjl]
    refine ⟨.map (es.set j ⟨kV k, e.val, e.born⟩) clk, .map (es.set j ⟨kV k, vV v, e.born⟩) clk, x.2, e.born, ⟨_, _, rfl, ?_, ?_, ?_, ?_⟩, fun h m hg => ?_, fun h m hg => ?_⟩
    · rw [List.map_set, List.map_set, h1]
    · rw [List.map_set, List.map_set, h2]
    · intro y hy
      rcases List.mem_or_eq_of_mem_set hy with hy | hy
      · exact h3 y hy
      · subst hy; exact h3 e (List.mem_of_getElem? he')
    · rw [hbs]; exact h4
    · simp only [xmapEntry, ht, hd, hg, he, K.key, cond_true, hf, hj, he', hke, K.peq, hve]
    · have hb := born_at 0 (by rw [hbs]; exact h4) hat
      simp only [Nat.zero_add] at hb
      simp only [xentryStore, hg, hb, hat, List.set_set]
end

/-- of two parts that are compared the first one that is unlike -/
def both (x y : Option Bool) : Option Bool := match x with
  | some true => y
  | some false => some false
  | none => none

theorem both_some (x y : Bool) : both (some x) (some y) = some (x && y) := by cases x <;> rfl

theorem splice_at (fr m bk l : List V) (h : l.length = m.length) : splice (fr ++ (m ++ bk)) fr.length l = fr ++ (l ++ bk) := by
  unfold splice
  rw [List.take_left, h, show fr ++ (m ++ bk) = (fr ++ m) ++ bk by simp, show fr.length + m.length = (fr ++ m).length by simp, List.drop_left]
  simp

/-- 'x[k] = row' -/
theorem Own.stN {sz n : Nat} {a : Option (Nat × Nat)} {rows : List (List V)} {h : Hp} {F : List Nat} (ho : Own sz a n rows h F) (hw : h.wf) {k : Nat} (hk : k < n) {row : List V} (hr : row.length = sz) :
    ∃ q o h', a = some (q, o) ∧ h.st q (o + k * sz) row = some h' ∧ Own sz a n (rows.set k row) h' F ∧ (∀ j, j ∉ F → h'.get j = h.get j) ∧ h'.next = h.next ∧ h'.wf := by
  obtain ⟨h1, h2, h3⟩ := ho
  have hkl : k < rows.length := by omega
  cases a with
  | none => rw [h3.1] at hkl; simp at hkl
  | some p =>
    obtain ⟨q, o⟩ := p
    obtain ⟨rfl, front, rfl, hg⟩ := h3
    have hfl := flatten_len sz rows h2
    have hft := flatten_len sz (rows.take k) fun r hr => h2 r (List.mem_of_mem_take hr)
    rw [List.length_take, Nat.min_eq_left (by omega)] at hft
    have hle : k * sz + sz ≤ rows.length * sz := by
      have := Nat.mul_le_mul_right sz (show k + 1 ≤ rows.length from hkl)
      rw [Nat.succ_mul] at this; exact this
    have e1 : rows = rows.take k ++ rows[k] :: rows.drop (k + 1) := by
      conv => lhs; rw [← List.take_append_drop k rows, List.drop_eq_getElem_cons hkl]
    have e2 : rows.set k row = rows.take k ++ row :: rows.drop (k + 1) := List.set_eq_take_append_cons_drop.trans (if_pos hkl)
    have hrk := h2 _ (List.getElem_mem hkl)
    refine ⟨q, front.length, _, rfl, Hp.st_of hg (by rw [List.length_append, hfl, hr]; omega), ⟨by rw [List.length_set, h1], fun r hr' => ?_, rfl, front, rfl, ?_⟩, fun j hj => Hp.get_set_ne (by simpa using hj), rfl, hw.set (hw.lt hg)⟩
    · rcases List.mem_or_eq_of_mem_set hr' with h | h
      · exact h2 r h
      · rw [h, hr]
    · rw [Hp.get_set_self]
      congr 2
      rw [e2]
      conv => lhs; rw [e1]
      simp only [List.flatten_append, List.flatten_cons]
      rw [show front ++ ((rows.take k).flatten ++ (rows[k] ++ (rows.drop (k + 1)).flatten)) = (front ++ (rows.take k).flatten) ++ (rows[k] ++ (rows.drop (k + 1)).flatten) by simp,
        show front.length + k * sz = (front ++ (rows.take k).flatten).length by rw [List.length_append, hft], splice_at _ _ _ _ (by rw [hr, hrk])]
      simp

/-! ### slices of one cell -/

def sing (l : List V) : List (List V) := l.map fun v => [v]

theorem sing_flat (l : List V) : (sing l).flatten = l := by
  induction l with
  | nil => rfl
  | cons a l ih => simp [sing] at ih ⊢; exact ih

theorem sing_len (l : List V) : (sing l).length = l.length := by simp [sing]

theorem sing_all (l : List V) : ∀ r ∈ sing l, r.length = 1 := fun r hr => by
  obtain ⟨x, _, rfl⟩ := List.mem_map.1 hr; rfl

section
variable {n : Nat} {a : Option (Nat × Nat)} {l : List V} {h : Hp} {F : List Nat}

theorem Ow.ld1 (ho : Ow 1 a n (sing l) h F) {k : Nat} {v : V} (hv : l[k]? = some v) : ∃ q o, a = some (q, o) ∧ h.ld q (o + k * 1) = some v := by
  have hn : l.length = n := by have := ho.1; simpa [sing] using this
  have hk := (List.getElem?_eq_some_iff.1 hv).1
  obtain ⟨q, o, r, rfl, hr, _, hld, _⟩ := ho.ld (k := k) (by omega)
  have : (sing l)[k]? = some [v] := by unfold sing; rw [List.getElem?_map, hv]; rfl
  rw [this] at hr
  cases hr
  exact ⟨q, o, rfl, by have := hld 0 (by omega); simpa using this⟩

theorem Ow.st1 (ho : Ow 1 a n (sing l) h F) (hw : h.wf) {k : Nat} (hk : k < n) (v : V) : ∃ q o h', a = some (q, o) ∧ h.st q (o + k * 1) [v] = some h' ∧ Ow 1 a n (sing (l.set k v)) h' F ∧ (∀ j, j ∉ F → h'.get j = h.get j) ∧ h'.next = h.next ∧ h'.wf := by
  obtain ⟨h1, h2, h3⟩ := ho
  rw [sing_len] at h1
  cases a with
  | none => simp [sing] at h3; rw [h3.1] at h1; simp at h1; omega
  | some p =>
    obtain ⟨q, o⟩ := p
    obtain ⟨rfl, front, back, rfl, hg⟩ := h3
    rw [sing_flat] at hg
    refine ⟨q, front.length, _, rfl, Hp.st_of hg (by simp; omega), ⟨by rw [sing_len, List.length_set, h1], sing_all _, rfl, front, back, rfl, ?_⟩, fun j hj => Hp.get_set_ne (by simpa using hj), rfl, hw.set (hw.lt hg)⟩
    rw [Hp.get_set_self, sing_flat, Nat.mul_one, splice_mid _ _ _ _ _ (by omega)]

/-- 'clear(x[k:])' -/
theorem Ow.clear1 {T : TT} {t e : TypeId} {ti ei : TI} {f : Bool} {z : V} (ho : Ow 1 a n (sing l) h F) (hw : h.wf) (ht : T t = some ti) (hd : ti.d = .slc e) (he : T e = some ei) (hs : ei.size = 1) (hz : ei.zero = some z) (hz1 : vcells z = [z]) (hzo : z.one = true) {k : Nat} (hk : k ≤ n) (ha : a ≠ none) :
    ∃ a1 f1 h', xslice T h t (.slc a n f) (some (.int .i64 k)) none none = some (.slc a1 (n - k) f1) ∧ xclear T h t (.slc a1 (n - k) f1) = some h' ∧
      ∃ a2 f2, xslice T h' t (.slc a n f) none (some (.int .i64 k)) none = some (.slc a2 k f2) ∧ Ow 1 a2 k (sing (l.take k)) h' F ∧ (∀ j, j ∉ F → h'.get j = h.get j) ∧ h'.next = h.next ∧ h'.wf := by
  obtain ⟨h1, h2, h3⟩ := ho
  rw [sing_len] at h1
  cases a with
  | none => exact absurd rfl ha
  | some p =>
    obtain ⟨q, o⟩ := p
    obtain ⟨rfl, front, back, rfl, hg⟩ := h3
    rw [sing_flat] at hg
    have hsl : xslice T h t (.slc (some (q, front.length)) n f) (some (.int .i64 k)) none none = some (.slc (some (q, front.length + k * 1)) (n - k) (f && Nat.beq n n)) := by
      simp only [xslice, ht, hd, he, hg, hs]
      simp [bnd, hk, hs]
    have fin : ∀ h' : Hp, ∀ l' : List V, l'.length = n → l'.take k = l.take k → h'.get q = some (.row (front ++ (l' ++ back)) 1 false) → (∀ j, j ∉ [q] → h'.get j = h.get j) → h'.next = h.next → h'.wf →
        ∃ a2 f2, xslice T h' t (.slc (some (q, front.length)) n f) none (some (.int .i64 k)) none = some (.slc a2 k f2) ∧ Ow 1 a2 k (sing (l.take k)) h' [q] ∧ (∀ j, j ∉ [q] → h'.get j = h.get j) ∧ h'.next = h.next ∧ h'.wf := fun h' l' hl ht' hg' hs' hn' hw' => by
      have ho' : Ow 1 (some (q, front.length)) n (sing l') h' [q] := ⟨by rw [sing_len, hl], sing_all _, rfl, front, back, rfl, by rw [sing_flat]; exact hg'⟩
      obtain ⟨a2, f2, hx, ho2⟩ := ho'.cut (f := f) (κ := .i64) (κ' := .i64) (lo := none) (hi := some k) (i := 0) (j := k) ht hd he hs rfl rfl (Nat.zero_le _) hk
      rw [Nat.sub_zero] at hx ho2
      refine ⟨a2, f2, hx, ?_, hs', hn', hw'⟩
      have : ((sing l').take k).drop 0 = sing (l.take k) := by rw [List.drop_zero]; unfold sing; rw [← List.map_take, ht']
      rw [this] at ho2; exact ho2
    refine ⟨some (q, front.length + k * 1), f && Nat.beq n n, ?_⟩
    by_cases hnk : n - k = 0
    · refine ⟨h, hsl, ?_, fin h l h1 rfl hg (fun _ _ => rfl) rfl hw⟩
      simp only [xclear, ht, hnk, Nat.beq_refl, cond_true]
    · have hb : Nat.beq (n - k) 0 = false := by
        cases hq : Nat.beq (n - k) 0 with
        | false => rfl
        | true => exact absurd (Nat.eq_of_beq_eq_true hq) hnk
      have hcnd : (Nat.ble (front.length + k * 1 + (n - k) * (vcells z).length) (front ++ (l ++ back)).length && ones (vcells z) && Nat.blt 0 (vcells z).length) = true := by
        rw [hz1]
        simp only [Bool.and_eq_true]
        refine ⟨⟨?_, ?_⟩, rfl⟩
        · simp only [ble_eq', decide_eq_true_eq, List.length_append, List.length_singleton]; omega
        · simp [ones, hzo]
      refine ⟨h.set q (.row (splice (front ++ (l ++ back)) (front.length + k * 1) (Vex.rep (vcells z) ((n - k) * (vcells z).length))) 1 false), hsl, ?_, fin _ (l.take k ++ Vex.rep (vcells z) ((n - k) * (vcells z).length)) ?_ ?_ ?_ (fun j hj => Hp.get_set_ne (by simpa using hj)) rfl (hw.set (hw.lt hg))⟩
      · simp only [xclear, ht, hd, he, hz, hg, hb, cond_false, hcnd, cond_true]
      · rw [List.length_append, rep_length, List.length_take, hz1]; simp; omega
      · rw [List.take_append_of_le_length (by rw [List.length_take]; omega), List.take_take, Nat.min_self]
      · rw [Hp.get_set_self]
        congr 2
        unfold splice
        rw [rep_length, hz1]
        simp only [List.length_singleton, Nat.mul_one]
        rw [List.take_append, List.take_of_length_le (by omega), show front.length + k - front.length = k by omega, List.take_append_of_le_length (by omega)]
        rw [show front.length + k + (n - k) = front.length + l.length by omega, List.drop_append, List.drop_of_length_le (by omega), show front.length + l.length - front.length = l.length by omega, List.drop_left]
        simp
end
end Go.Vex
