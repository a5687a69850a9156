/-
  VEX, part Z: what a structure owns; its own slices: read, cut, written, appended to.
-/
import Derived.Test.YtkfnokgfgcfldaaGreatVexY
set_option linter.unusedSimpArgs false
set_option linter.unusedVariables false
namespace Go.Vex

/-- from heap to heap: of what was there, only the objects of F turned; those of F' are of F, or new -/
structure Upd (h h' : Hp) (F F' : List Nat) : Prop where
  same : ∀ j, j < h.next → j ∉ F → h'.get j = h.get j
  new : ∀ j ∈ F', j ∈ F ∨ h.next ≤ j
  le : h.next ≤ h'.next

/-- a structure on the heap: it hangs on its own objects alone -/
structure Rep (R : Hp → List Nat → Prop) : Prop where
  loc : ∀ h h' F, (∀ j ∈ F, h'.get j = h.get j) → R h F → R h' F
  dom : ∀ h F, R h F → ∀ j ∈ F, ∃ o, h.get j = some o ∧ o.rw = true

theorem Upd.refl (h : Hp) (F : List Nat) : Upd h h F F := ⟨fun _ _ _ => rfl, fun _ h => .inl h, Nat.le_refl _⟩

theorem Upd.trans {h h' h'' : Hp} {F F' F'' : List Nat} (u : Upd h h' F F') (v : Upd h' h'' F' F'') : Upd h h'' F F'' where
  same := fun j hj hF => by
    rw [v.same j (Nat.lt_of_lt_of_le hj u.le) (fun hF' => ?_), u.same j hj hF]
    rcases u.new j hF' with h1 | h1
    · exact hF h1
    · omega
  new := fun j hj => by
    rcases v.new j hj with h1 | h1
    · exact u.new j h1
    · exact .inr (Nat.le_trans u.le h1)
  le := Nat.le_trans u.le v.le

/-- nothing of ours was touched -/
theorem Upd.quiet {h h' : Hp} (F : List Nat) (hs : ∀ j, j < h.next → h'.get j = h.get j) (hl : h.next ≤ h'.next) : Upd h h' F F := ⟨fun j hj _ => hs j hj, fun _ h => .inl h, hl⟩

theorem Upd.alloc (h : Hp) (o : O) (F : List Nat) : Upd h (h.alloc o) F F := Upd.quiet F (fun j hj => Hp.get_alloc_ne (by omega)) (Nat.le_succ _)

theorem Rep.lt {R : Hp → List Nat → Prop} (hR : Rep R) {h : Hp} {F : List Nat} (hw : h.wf) (r : R h F) {j : Nat} (hj : j ∈ F) : j < h.next :=
  let ⟨o, ho, _⟩ := hR.dom h F r j hj
  hw j o ho

/-- another structure stays while one turns -/
theorem Upd.frame {R : Hp → List Nat → Prop} (hR : Rep R) {h h' : Hp} {F F' G : List Nat} (hw : h.wf) (r : R h G) (u : Upd h h' F F') (d : ∀ j ∈ F, j ∉ G) : R h' G ∧ ∀ j ∈ F', j ∉ G := by
  refine ⟨hR.loc h h' G (fun j hj => u.same j (hR.lt hw r hj) fun hF => d j hF hj) r, fun j hj hG => ?_⟩
  rcases u.new j hj with h1 | h1
  · exact d j h1 hG
  · have := hR.lt hw r hG; omega

/-- the caller's rows stay -/
theorem Upd.keeps {R : Hp → List Nat → Prop} (hR : Rep R) {h0 h h' : Hp} {F F' : List Nat} (hw : h.wf) (r : R h F) (u : Upd h h' F F') (hk : h0.keeps h) : h0.keeps h' := by
  intro q c e hq
  have h1 := hk q c e hq
  rw [u.same q (hw q _ h1) fun hF => ?_]
  · exact h1
  · obtain ⟨o, ho, hr⟩ := hR.dom h F r q hF
    rw [h1] at ho; cases ho; simp [O.rw] at hr

theorem Hp.keeps.refl (h : Hp) : h.keeps h := fun _ _ _ h => h

/-- a structure stays where all that was there stays -/
theorem Rep.stay {R : Hp → List Nat → Prop} (hR : Rep R) {h h' : Hp} {F : List Nat} (hw : h.wf) (r : R h F) (hs : ∀ j, j < h.next → h'.get j = h.get j) : R h' F :=
  hR.loc h h' F (fun j hj => hs j (hR.lt hw r hj)) r

theorem Hp.keeps.stay {h0 h h' : Hp} (hk : h0.keeps h) (hw : h.wf) (hs : ∀ j, j < h.next → h'.get j = h.get j) : h0.keeps h' := fun q c e hq => by
  have := hk q c e hq
  rw [hs q (hw.lt this)]; exact this

/-! ### slices of its own -/

/-- the rows stand behind 'front' to the end of the object -/
def Own (sz : Nat) (a : Option (Nat × Nat)) (n : Nat) (rows : List (List V)) (h : Hp) (F : List Nat) : Prop :=
  rows.length = n ∧ (∀ r ∈ rows, r.length = sz) ∧
    match a with
    | none => rows = [] ∧ F = []
    | some (q, o) => F = [q] ∧ ∃ front, front.length = o ∧ h.get q = some (.row (front ++ rows.flatten) sz false)

theorem Own.rep (sz : Nat) (a : Option (Nat × Nat)) (n : Nat) (rows : List (List V)) : Rep (Own sz a n rows) where
  loc := fun h h' F hs ⟨h1, h2, h3⟩ => by
    refine ⟨h1, h2, ?_⟩
    cases a with
    | none => exact h3
    | some p =>
      obtain ⟨q, o⟩ := p
      obtain ⟨rfl, front, hf, hg⟩ := h3
      exact ⟨rfl, front, hf, by rw [hs q (by simp)]; exact hg⟩
  dom := fun h F ⟨h1, h2, h3⟩ j hj => by
    cases a with
    | none => rw [h3.2] at hj; cases hj
    | some p =>
      obtain ⟨q, o⟩ := p
      obtain ⟨rfl, front, hf, hg⟩ := h3
      rw [List.mem_singleton] at hj
      subst hj
      exact ⟨_, hg, rfl⟩

theorem Own.nil (sz : Nat) (h : Hp) : Own sz none 0 [] h [] := ⟨rfl, by simp, rfl, rfl⟩

section
variable {sz n : Nat} {a : Option (Nat × Nat)} {rows : List (List V)} {h : Hp} {F : List Nat}

theorem getElem?_mid {α : Type} (front : List α) (rows : List (List α)) (hz : ∀ r ∈ rows, r.length = sz) {k j : Nat} (hj : j < sz) : (front ++ rows.flatten)[front.length + k * sz + j]? = (rows[k]?).bind fun r => r[j]? := by
  rw [List.getElem?_append_right (by omega), ← flatten_get sz rows hz k j hj]
  congr 1; omega

theorem Own.ld (ho : Own sz a n rows h F) {k : Nat} (hk : k < n) : ∃ q o r, a = some (q, o) ∧ rows[k]? = some r ∧ r.length = sz ∧ (∀ j, j < sz → h.ld q (o + k * sz + j) = r[j]?) ∧ h.lda q (o + k * sz) sz = some (.agg r) := by
  obtain ⟨h1, h2, h3⟩ := ho
  have hl : k < rows.length := by omega
  cases a with
  | none => rw [h3.1] at hl; simp at hl
  | some p =>
    obtain ⟨q, o⟩ := p
    obtain ⟨rfl, front, rfl, hg⟩ := h3
    have hr := h2 _ (List.getElem_mem hl)
    refine ⟨q, front.length, rows[k], rfl, List.getElem?_eq_getElem hl, hr, fun j hj => ?_, ?_⟩
    · rw [Hp.ld_of hg, getElem?_mid front rows h2 hj, List.getElem?_eq_getElem hl]; rfl
    · have hfl := flatten_len sz rows h2
      have hle : k * sz + sz ≤ rows.length * sz := by
        have := Nat.mul_le_mul_right sz (show k + 1 ≤ rows.length from hl)
        rw [Nat.succ_mul] at this; exact this
      rw [Hp.lda_of hg (by rw [List.length_append, hfl]; omega)]
      congr 2
      apply List.ext_getElem?
      intro j
      rw [List.getElem?_take, List.getElem?_drop]
      split
      · rename_i hj
        rw [getElem?_mid front rows h2 hj, List.getElem?_eq_getElem hl]; rfl
      · rename_i hj
        rw [List.getElem?_eq_none (by omega)]

/-- 'x[k:]' -/
theorem Own.tail {T : TT} {t e : TypeId} {ti ei : TI} {f : Bool} {κ : IntKind} (ho : Own sz a n rows h F) (ht : T t = some ti) (hd : ti.d = .slc e) (he : T e = some ei) (hs : ei.size = sz) {k : Nat} (hk : k ≤ n) (h0 : a ≠ none ∨ n = 0 ∧ k = 0) :
    ∃ a' f', xslice T h t (.slc a n f) (some (.int κ k)) none none = some (.slc a' (n - k) f') ∧ Own sz a' (n - k) (rows.drop k) h F := by
  obtain ⟨h1, h2, h3⟩ := ho
  cases a with
  | none =>
    rcases h0 with h0 | ⟨rfl, rfl⟩
    · exact absurd rfl h0
    · refine ⟨none, true, ?_, by simpa using h1, ?_, ?_⟩
      · simp [xslice, ht, hd, he, bnd]
      · intro r hr; exact h2 r (List.mem_of_mem_drop hr)
      · obtain ⟨rfl, rfl⟩ := h3; exact ⟨rfl, rfl⟩
  | some p =>
    obtain ⟨q, o⟩ := p
    obtain ⟨rfl, front, rfl, hg⟩ := h3
    refine ⟨some (q, front.length + k * sz), f && Nat.beq n n, ?_, by simp [h1], fun r hr => h2 r (List.mem_of_mem_drop hr), rfl, front ++ (rows.take k).flatten, ?_, ?_⟩
    · simp [xslice, ht, hd, he, hg, bnd, hs, hk]
    · rw [List.length_append, flatten_len sz _ fun r hr => h2 r (List.mem_of_mem_take hr), List.length_take, h1, Nat.min_eq_left hk]
    · rw [hg, List.append_assoc, ← List.flatten_append, List.take_append_drop]

/-- 'append(x, y...)', y: cells that stand in an object of their own -/
theorem Own.app {T : TT} {t u e : TypeId} {ti ui ei : TI} {f : Bool} (ho : Own sz a n rows h F) (hw : h.wf) (ht : T t = some ti) (hd : ti.d = .slc e) (hu : T u = some ui) (hud : ∀ k, ui.d ≠ .int k) (he : T e = some ei) (hs : ei.size = sz) (h0 : 1 ≤ sz) (hzk : zok ei = true)
    {y : V} {news : List (List V)} (hy : xnews h sz y = some (news.length, news.flatten)) (hnz : ∀ r ∈ news, r.length = sz) (hnp : news ≠ []) (hb : (n + news.length) * ei.bytes ≤ 140737488355328) (hb2 : n + news.length ≤ 4611686018427387904) :
    ∃ h', xapp T h t u (.slc a n f) y = some (.slc (some (h.next, 0)) (n + news.length) false, h') ∧ Own sz (some (h.next, 0)) (n + news.length) (rows ++ news) h' [h.next] ∧ Upd h h' F [h.next] ∧ h'.wf := by
  obtain ⟨h1, h2, h3⟩ := ho
  subst hs
  have hlen : news.length ≠ 0 := fun e => hnp (List.eq_nil_of_length_eq_zero e)
  have hcnd : (Nat.ble ((n + news.length) * ei.bytes) 140737488355328 && (Nat.ble (n + news.length) 4611686018427387904 && (Nat.ble 1 ei.size && zok ei))) = true := by
    simp only [Bool.and_eq_true, ble_eq', decide_eq_true_eq]; exact ⟨hb, hb2, h0, hzk⟩
  have hall : ∀ r ∈ rows ++ news, r.length = ei.size := fun r hr => (List.mem_append.1 hr).elim (h2 r) (hnz r)
  have hbq : Nat.beq news.length 0 = false := by
    cases hq : Nat.beq news.length 0 with
    | false => rfl
    | true => exact absurd (Nat.eq_of_beq_eq_true hq) hlen
  have huq : ∀ {α : Type} (x y : α), (match ui.d with | .int _ => x | _ => y) = y := by
    intro α x y
    cases hq : ui.d <;> first | rfl | exact absurd hq (hud _)
  cases a with
  | none =>
    obtain ⟨rfl, rfl⟩ := h3
    obtain rfl : n = 0 := by simpa using h1.symm
    refine ⟨h.alloc (.row news.flatten ei.size false), ?_, ⟨by simp, by simpa using hnz, rfl, [], rfl, by simp [Hp.get_alloc_self]⟩, ⟨fun j hj _ => Hp.get_alloc_ne (by omega), fun j hj => by rw [List.mem_singleton] at hj; exact .inr (by omega), Nat.le_succ _⟩, hw.alloc⟩
    have hres : xapp T h t u (.slc none 0 f) y = some (.slc (some (h.next, 0)) news.length false, h.alloc (.row news.flatten ei.size false)) := by
      unfold xapp
      rw [ht, hu]
      simp only [hd]
      cases hq : ui.d <;> first | exact absurd hq (hud _) | (simp only [he, hy, hbq, cond_false]; rw [hcnd]; rfl)
    rw [hres]; simp
  | some p =>
    obtain ⟨q, o⟩ := p
    obtain ⟨rfl, front, rfl, hg⟩ := h3
    have hfl := flatten_len ei.size rows h2
    have hcut : cut (front ++ rows.flatten) front.length (n * ei.size) = some rows.flatten := by
      unfold cut
      rw [show Nat.ble (front.length + n * ei.size) (front ++ rows.flatten).length = true from by simp only [ble_eq', decide_eq_true_eq, List.length_append, hfl, h1]; omega]
      simp only [cond_true, List.drop_left]
      rw [List.take_of_length_le (by rw [hfl, h1]; omega)]
    have hend : Nat.beq (front.length + n * ei.size) (front ++ rows.flatten).length = true := by
      rw [List.length_append, hfl, h1]; exact Nat.beq_refl _
    have hqn := hw.ne hg
    cases f with
    | true =>
      refine ⟨h.alloc (.row (rows.flatten ++ news.flatten) ei.size false), ?_, ⟨by simp [h1], hall, rfl, [], rfl, by simp [Hp.get_alloc_self]⟩, ⟨fun j hj _ => Hp.get_alloc_ne (by omega), fun j hj => by rw [List.mem_singleton] at hj; exact .inr (by omega), Nat.le_succ _⟩, hw.alloc⟩
      unfold xapp
      rw [ht, hu]
      simp only [hd]
      cases hq : ui.d <;> first | exact absurd hq (hud _) | (simp only [he, hy, hbq, cond_false]; rw [hcnd]; simp only [cond_true, hg, hcut, Nat.beq_refl])
    | false =>
      refine ⟨(h.kill q).alloc (.row (rows.flatten ++ news.flatten) ei.size false), ?_, ⟨by simp [h1], hall, rfl, [], rfl, ?_⟩, ⟨fun j hj hF => ?_, fun j hj => by rw [List.mem_singleton] at hj; exact .inr (by omega), Nat.le_succ _⟩, ?_⟩
      · unfold xapp
        rw [ht, hu]
        simp only [hd]
        cases hq : ui.d <;> first | exact absurd hq (hud _) | (simp only [he, hy, hbq, cond_false]; rw [hcnd]; simp only [cond_true, cond_false, hg, hcut, Nat.beq_refl, Bool.not_false, Bool.true_and, hend])
      · have := Hp.get_alloc_self (h := h.kill q) (o := .row (rows.flatten ++ news.flatten) ei.size false)
        simpa using this
      · rw [Hp.get_alloc_ne (by simp; omega), Hp.get_kill_ne (by simpa using hF)]
      · have hk : (h.kill q).wf := fun j o hj => by
          rw [Hp.get_kill] at hj
          split at hj
          · cases hj
          · exact hw j o hj
        exact hk.alloc
end
end Go.Vex
