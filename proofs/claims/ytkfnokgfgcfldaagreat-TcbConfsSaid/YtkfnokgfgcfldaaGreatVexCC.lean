/-
  VEX, part CC: ranges over maps, entry by entry; rounds of a loop over a function.
-/
import Derived.Test.YtkfnokgfgcfldaaGreatVexBB
set_option linter.unusedSimpArgs false
set_option linter.unusedVariables false
namespace Go.Vex

section
variable {κ β : Type} {kV : κ → V} {vV : β → V}

def mkE (kV : κ → V) (vV : β → V) (z : (κ × β) × Nat) : Ent := ⟨kV z.1.1, vV z.1.2, z.2⟩

/-- a range over map m by iterator 'it': what the map has, and which entries have come -/
structure MapIter (kV : κ → V) (vV : β → V) (cur : List ((κ × β) × Nat)) (m it : Nat) (sn : List Nat) (h : Hp) : Prop where
  nodup : (cur.map Prod.snd).Nodup
  ex : ∃ clk, h.get m = some (.map (cur.map (mkE kV vV)) clk) ∧ (∀ z ∈ cur, z.2 < clk) ∧ h.get it = some (.miter (some m) clk sn clk)

/-- those that have not come -/
def rem (cur : List ((κ × β) × Nat)) (sn : List Nat) : List ((κ × β) × Nat) := cur.filter fun z => !sn.contains z.2

theorem rem_nil (cur : List ((κ × β) × Nat)) : rem cur [] = cur := by simp [rem]

theorem rem_step {cur : List ((κ × β) × Nat)} {sn : List Nat} (hn : (cur.map Prod.snd).Nodup) {z : (κ × β) × Nat} (hz : z ∈ rem cur sn) : (rem cur sn).Perm (z :: rem cur (sn ++ [z.2])) := by
  have h1 : rem cur (sn ++ [z.2]) = (rem cur sn).filter fun y => !(y.2 == z.2) := by
    unfold rem
    rw [List.filter_filter]
    congr 1
    funext y
    rw [List.contains_append]
    simp only [List.contains_cons, List.contains_nil, Bool.or_false, Bool.not_or, Bool.and_comm]
  have h2 : ∀ (l : List ((κ × β) × Nat)), (l.map Prod.snd).Nodup → z ∈ l → l.filter (fun y => y.2 == z.2) = [z] := by
    intro l
    induction l with
    | nil => intro _ h; cases h
    | cons y l ih =>
      intro hn hz
      rw [List.map_cons, List.nodup_cons] at hn
      rcases List.mem_cons.1 hz with rfl | hz
      · rw [List.filter_cons_of_pos (by simp)]
        congr 1
        apply List.filter_eq_nil_iff.2
        intro y hy
        simp only [beq_iff_eq]
        exact fun e => hn.1 (by rw [← e]; exact List.mem_map_of_mem hy)
      · have hne : y.2 ≠ z.2 := fun e => hn.1 (by rw [e]; exact List.mem_map_of_mem hz)
        rw [List.filter_cons_of_neg (by simpa using hne)]
        exact ih hn.2 hz
  have h3 := h2 (rem cur sn) (hn.sublist (List.Sublist.map _ List.filter_sublist)) hz
  have h4 := List.filter_append_perm (fun y : (κ × β) × Nat => y.2 == z.2) (rem cur sn)
  rw [h3] at h4
  rw [h1]
  exact h4.symm

theorem MapIter.keep {cur : List ((κ × β) × Nat)} {m it : Nat} {sn : List Nat} {h h' : Hp} (i : MapIter kV vV cur m it sn h) (h1 : h'.get m = h.get m) (h2 : h'.get it = h.get it) : MapIter kV vV cur m it sn h' := by
  obtain ⟨hn, clk, e1, e2, e3⟩ := i
  exact ⟨hn, clk, by rw [h1]; exact e1, e2, by rw [h2]; exact e3⟩

/-- the range begins -/
theorem MapIs.range [DecidableEq κ] {l : List (κ × β)} {m : Nat} {h : Hp} {F : List Nat} {T : TT} {t kt et : TypeId} {ti : TI} (hm : MapIs kV vV l m h F) (hw : h.wf) (ht : T t = some ti) (hd : ti.d = .map kt et) :
    ∃ h' cur, xrange T h t (.map (some m)) = some (.ptr (some (h.next, 0)), h') ∧ MapIter kV vV cur m h.next [] h' ∧ cur.map Prod.fst = l ∧ (∀ j, j ≠ h.next → h'.get j = h.get j) ∧ h'.next = h.next + 1 ∧ h'.wf := by
  obtain ⟨_, es, clk, hg, h1, h2, h3, h4⟩ := hm
  have hne := hw.ne hg
  have hl : es.length = l.length := by have := congrArg List.length h1; simpa using this
  have hcur : (l.zip (es.map Ent.born)).map (mkE kV vV) = es := by
    apply List.ext_getElem?
    intro i
    by_cases hi : i < l.length
    · have a1 : (es.map Ent.key)[i]? = (l.map fun x => kV x.1)[i]? := by rw [h1]
      have a2 : (es.map Ent.val)[i]? = (l.map fun x => vV x.2)[i]? := by rw [h2]
      have hi' : i < es.length := by omega
      simp only [List.getElem?_map, List.getElem?_eq_getElem hi, List.getElem?_eq_getElem hi', Option.map_some, Option.some.injEq] at a1 a2
      have a3 : (l.zip (es.map Ent.born))[i]? = some (l[i], es[i].born) := List.getElem?_zip_eq_some.2 ⟨List.getElem?_eq_getElem hi, by rw [List.getElem?_map, List.getElem?_eq_getElem hi']; rfl⟩
      rw [List.getElem?_map, a3, List.getElem?_eq_getElem hi']
      simp only [Option.map_some, mkE, Option.some.injEq]
      rw [← a1, ← a2]
    · rw [List.getElem?_eq_none (by simp; omega), List.getElem?_eq_none (by omega)]
  have hsnd : (l.zip (es.map Ent.born)).map Prod.snd = es.map Ent.born := by
    rw [List.map_snd_zip]; simp [hl]
  refine ⟨h.alloc (.miter (some m) clk [] clk), l.zip (es.map Ent.born), ?_, ⟨by rw [hsnd]; exact h4, clk, ?_, ?_, Hp.get_alloc_self⟩, by rw [List.map_fst_zip]; simp [hl], fun j hj => Hp.get_alloc_ne hj, rfl, hw.alloc⟩
  · simp [xrange, ht, hd, hg]
  · rw [hcur, Hp.get_alloc_ne hne]; exact hg
  · intro z hz
    have : z.2 ∈ es.map Ent.born := by rw [← hsnd]; exact List.mem_map_of_mem hz
    obtain ⟨e, he, hb⟩ := List.mem_map.1 this
    rw [← hb]; exact h3 e he

/-- what comes next -/
theorem MapIter.next {cur : List ((κ × β) × Nat)} {m it : Nat} {sn : List Nat} {h : Hp} (i : MapIter kV vV cur m it sn h) (hmi : m ≠ it) :
    ∃ l, xnext h (.ptr (some (it, 0))) = some l ∧ ((.tup [.bool false], h) ∈ l → rem cur sn = []) ∧ (∀ r ∈ l, r = (.tup [.bool false], h) ∨ ∃ a b, r.1 = .tup [.bool true, a, b]) ∧
      ∀ (a b : V) (h' : Hp), (.tup [.bool true, a, b], h') ∈ l → ∃ z, z ∈ rem cur sn ∧ a = kV z.1.1 ∧ b = vV z.1.2 ∧ MapIter kV vV cur m it (sn ++ [z.2]) h' ∧ xentry h' (.ptr (some (it, 0))) = some (.tup [kV z.1.1, vV z.1.2]) ∧
        (∀ j, j ≠ it → h'.get j = h.get j) ∧ h'.next = h.next := by
  obtain ⟨hn, clk, hg, hb, hi⟩ := i
  have hguard : (!sn.isEmpty && !(cur.map (mkE kV vV)).isEmpty && (cur.map (mkE kV vV)).all fun e => decide (e.born ≥ clk)) = false := by
    cases cur with
    | nil => simp
    | cons z r =>
      have := hb z (by simp)
      simp [mkE]
      omega
  have hleft : ((cur.map (mkE kV vV)).filter fun e => !sn.contains e.born) = (rem cur sn).map (mkE kV vV) := by
    unfold rem; rw [List.filter_map]; rfl
  have hrem : ∀ z ∈ rem cur sn, z ∈ cur := fun z hz => (List.mem_filter.1 hz).1
  have hold : (((rem cur sn).map (mkE kV vV)).filter fun e => decide (e.born < clk)) = (rem cur sn).map (mkE kV vV) := by
    apply List.filter_eq_self.2
    intro e he
    obtain ⟨z, hz, rfl⟩ := List.mem_map.1 he
    exact decide_eq_true (hb z (hrem z hz))
  have hnew : (((rem cur sn).map (mkE kV vV)).filter fun e => decide (e.born ≥ clk)) = [] := by
    apply List.filter_eq_nil_iff.2
    intro e he
    obtain ⟨z, hz, rfl⟩ := List.mem_map.1 he
    have := hb z (hrem z hz)
    simp [mkE]; omega
  have hc : cands (cur.map (mkE kV vV)) clk sn = (if (rem cur sn).isEmpty then [none] else []) ++ ((rem cur sn).map (mkE kV vV)).map some := by
    unfold cands
    simp only [hleft, hold, hnew, List.append_nil, List.isEmpty_map]
  refine ⟨(cands (cur.map (mkE kV vV)) clk sn).map fun
    | none => (.tup [.bool false], h)
    | some e => (.tup [.bool true, e.key, e.val], h.set it (.miter (some m) clk (sn ++ [e.born]) clk)), ?_, ?_, ?_, ?_⟩
  · simp only [xnext, hi, hg, hguard, cond_false]
    rfl
  · intro hm
    rw [hc] at hm
    simp only [List.mem_map, List.mem_append] at hm
    obtain ⟨x, hx, he⟩ := hm
    rcases hx with hx | ⟨e, _, rfl⟩
    · split at hx
      · rename_i h0; exact List.isEmpty_iff.1 h0
      · cases hx
    · simp at he
  · intro r hr
    obtain ⟨x, hx, rfl⟩ := List.mem_map.1 hr
    cases x with
    | none => exact .inl rfl
    | some e => exact .inr ⟨_, _, rfl⟩
  · intro a b h' hm
    rw [hc] at hm
    simp only [List.mem_map, List.mem_append] at hm
    obtain ⟨x, hx, he⟩ := hm
    rcases hx with hx | ⟨e, ⟨z, hz, rfl⟩, rfl⟩
    · split at hx
      · rw [List.mem_singleton] at hx; subst hx; simp at he
      · cases hx
    · simp only [Prod.mk.injEq, V.tup.injEq, List.cons.injEq, true_and, and_true] at he
      obtain ⟨⟨rfl, rfl⟩, rfl⟩ := he
      refine ⟨z, hz, rfl, rfl, ⟨hn, clk, by rw [Hp.get_set_ne hmi]; exact hg, hb, Hp.get_set_self⟩, ?_, fun j hj => Hp.get_set_ne hj, rfl⟩
      have hf : ((cur.map (mkE kV vV)).find? fun e => e.born == z.2) = some (mkE kV vV z) := by
        have hzc := hrem z hz
        clear hc hnew hold hleft hguard hg hi hrem hz
        induction cur with
        | nil => cases hzc
        | cons y r ih =>
          rw [List.map_cons, List.nodup_cons] at hn
          rcases List.mem_cons.1 hzc with rfl | hzc
          · rw [List.map_cons, List.find?_cons_of_pos (by simp [mkE])]
          · have hne : y.2 ≠ z.2 := fun e => hn.1 (by rw [e]; exact List.mem_map_of_mem hzc)
            rw [List.map_cons, List.find?_cons_of_neg (by simpa [mkE] using hne)]
            exact ih hn.2 (fun z hz => hb z (by simp [hz])) hzc
      simp only [xentry, Hp.get_set_self, Hp.get_set_ne hmi, hg, List.getLast?_append, List.getLast?_singleton, Option.some_or, decide_true, cond_true, mkE, hf]

/-- a range over no map -/
theorem range_none {h : Hp} {T : TT} {t kt et : TypeId} {ti : TI} (ht : T t = some ti) (hd : ti.d = .map kt et) : xrange T h t (.map none) = some (.ptr (some (h.next, 0)), h.alloc (.miter none 0 [] 0)) := by
  simp [xrange, ht, hd]

theorem next_none {h : Hp} {it : Nat} (hi : h.get it = some (.miter none 0 [] 0)) : xnext h (.ptr (some (it, 0))) = some [(.tup [.bool false], h)] := by
  simp [xnext, hi]
end

/-! ### slices of one's own, what stands behind them left open -/

def Ow (sz : Nat) (a : Option (Nat × Nat)) (n : Nat) (rows : List (List V)) (h : Hp) (F : List Nat) : Prop :=
  rows.length = n ∧ (∀ r ∈ rows, r.length = sz) ∧
    match a with
    | none => rows = [] ∧ F = []
    | some (q, o) => F = [q] ∧ ∃ front back, front.length = o ∧ h.get q = some (.row (front ++ (rows.flatten ++ back)) sz false)

theorem Own.ow {sz : Nat} {a : Option (Nat × Nat)} {n : Nat} {rows : List (List V)} {h : Hp} {F : List Nat} (ho : Own sz a n rows h F) : Ow sz a n rows h F := by
  obtain ⟨h1, h2, h3⟩ := ho
  refine ⟨h1, h2, ?_⟩
  cases a with
  | none => exact h3
  | some p => obtain ⟨q, o⟩ := p; obtain ⟨rfl, front, hf, hg⟩ := h3; exact ⟨rfl, front, [], hf, by simpa using hg⟩

theorem Ow.rep (sz : Nat) (a : Option (Nat × Nat)) (n : Nat) (rows : List (List V)) : Rep (Ow sz a n rows) where
  loc := fun h h' F hs ⟨h1, h2, h3⟩ => by
    refine ⟨h1, h2, ?_⟩
    cases a with
    | none => exact h3
    | some p =>
      obtain ⟨q, o⟩ := p
      obtain ⟨rfl, front, back, hf, hg⟩ := h3
      exact ⟨rfl, front, back, hf, by rw [hs q (by simp)]; exact hg⟩
  dom := fun h F ⟨h1, h2, h3⟩ j hj => by
    cases a with
    | none => rw [h3.2] at hj; cases hj
    | some p =>
      obtain ⟨q, o⟩ := p
      obtain ⟨rfl, front, back, hf, hg⟩ := h3
      rw [List.mem_singleton] at hj
      subst hj
      exact ⟨_, hg, rfl⟩

theorem Ow.nil (sz : Nat) (h : Hp) : Ow sz none 0 [] h [] := ⟨rfl, by simp, rfl, rfl⟩

section
variable {sz n : Nat} {a : Option (Nat × Nat)} {rows : List (List V)} {h : Hp} {F : List Nat}

theorem getElem?_mid3 {α : Type} (front back : List α) (rows : List (List α)) (hz : ∀ r ∈ rows, r.length = sz) {k j : Nat} (hj : j < sz) (hk : k < rows.length) : (front ++ (rows.flatten ++ back))[front.length + k * sz + j]? = (rows[k]?).bind fun r => r[j]? := by
  have hfl := flatten_len sz rows hz
  have hle : k * sz + sz ≤ rows.length * sz := by
    have := Nat.mul_le_mul_right sz (show k + 1 ≤ rows.length from hk)
    rw [Nat.succ_mul] at this; exact this
  rw [List.getElem?_append_right (by omega), List.getElem?_append_left (by rw [hfl]; omega), ← flatten_get sz rows hz k j hj]
  congr 1; omega

theorem Ow.ld (ho : Ow sz a n rows h F) {k : Nat} (hk : k < n) : ∃ q o r, a = some (q, o) ∧ rows[k]? = some r ∧ r.length = sz ∧ (∀ j, j < sz → h.ld q (o + k * sz + j) = r[j]?) ∧ h.lda q (o + k * sz) sz = some (.agg r) := by
  obtain ⟨h1, h2, h3⟩ := ho
  have hl : k < rows.length := by omega
  cases a with
  | none => rw [h3.1] at hl; simp at hl
  | some p =>
    obtain ⟨q, o⟩ := p
    obtain ⟨rfl, front, back, rfl, hg⟩ := h3
    have hr := h2 _ (List.getElem_mem hl)
    refine ⟨q, front.length, rows[k], rfl, List.getElem?_eq_getElem hl, hr, fun j hj => ?_, ?_⟩
    · rw [Hp.ld_of hg, getElem?_mid3 front back rows h2 hj hl, List.getElem?_eq_getElem hl]; rfl
    · have hfl := flatten_len sz rows h2
      have hle : k * sz + sz ≤ rows.length * sz := by
        have := Nat.mul_le_mul_right sz (show k + 1 ≤ rows.length from hl)
        rw [Nat.succ_mul] at this; exact this
      rw [Hp.lda_of hg (by rw [List.length_append, List.length_append, hfl]; omega)]
      congr 2
      apply List.ext_getElem?
      intro j
      rw [List.getElem?_take, List.getElem?_drop]
      split
      · rename_i hj
        rw [getElem?_mid3 front back rows h2 hj hl, List.getElem?_eq_getElem hl]; rfl
      · rename_i hj
        rw [List.getElem?_eq_none (by omega)]

/-- 'x[i:j]' -/
theorem Ow.cut {T : TT} {t e : TypeId} {ti ei : TI} {f : Bool} {κ κ' : IntKind} (ho : Ow sz a n rows h F) (ht : T t = some ti) (hd : ti.d = .slc e) (he : T e = some ei) (hs : ei.size = sz) {lo hi : Option Nat} {i j : Nat} (hi' : i = lo.getD 0) (hj' : j = hi.getD n) (hij : i ≤ j) (hjn : j ≤ n) :
    ∃ a' f', xslice T h t (.slc a n f) (lo.map fun k : Nat => .int κ k) (hi.map fun k : Nat => .int κ' k) none = some (.slc a' (j - i) f') ∧ Ow sz a' (j - i) ((rows.take j).drop i) h F := by
  obtain ⟨h1, h2, h3⟩ := ho
  have hb1 : bnd (lo.map fun k : Nat => V.int κ k) 0 = some i := by cases lo <;> simp_all [bnd]
  have hb2 : bnd (hi.map fun k : Nat => V.int κ' k) n = some j := by cases hi <;> simp_all [bnd]
  have hlen : ((rows.take j).drop i).length = j - i := by simp [h1]; omega
  have hall : ∀ r ∈ (rows.take j).drop i, r.length = sz := fun r hr => h2 r (List.mem_of_mem_take (List.mem_of_mem_drop hr))
  cases a with
  | none =>
    obtain ⟨rfl, rfl⟩ := h3
    obtain rfl : n = 0 := by simpa using h1.symm
    obtain rfl : j = 0 := by omega
    obtain rfl : i = 0 := by omega
    exact ⟨none, true, by simp only [xslice, ht, hd, he, hb1, hb2]; simp [bnd], hlen, hall, by simp, rfl⟩
  | some p =>
    obtain ⟨q, o⟩ := p
    obtain ⟨rfl, front, back, rfl, hg⟩ := h3
    refine ⟨some (q, front.length + i * sz), f && Nat.beq j n, ?_, hlen, hall, rfl, front ++ (rows.take i).flatten, (rows.drop j).flatten ++ back, ?_, ?_⟩
    · simp only [xslice, ht, hd, he, hb1, hb2, hg, hs]
      simp [bnd, hij, hjn, hs]
    · rw [List.length_append, flatten_len sz _ fun r hr => h2 r (List.mem_of_mem_take hr), List.length_take, h1, Nat.min_eq_left (by omega)]
    · rw [hg]
      have e1 : rows.take i ++ (rows.take j).drop i = rows.take j := by
        have : rows.take i = (rows.take j).take i := by rw [List.take_take, Nat.min_eq_left hij]
        rw [this, List.take_append_drop]
      have e2 : rows.flatten = (rows.take i).flatten ++ ((rows.take j).drop i).flatten ++ (rows.drop j).flatten := by
        rw [← List.flatten_append, e1, ← List.flatten_append, List.take_append_drop]
      rw [e2]
      simp only [List.append_assoc]

/-- 'append(x, y...)', y: cells that stand in an object of their own -/
theorem Ow.app {T : TT} {t u e : TypeId} {ti ui ei : TI} {f : Bool} (ho : Ow sz a n rows h F) (hw : h.wf) (ht : T t = some ti) (hd : ti.d = .slc e) (hu : T u = some ui) (hud : ∀ k, ui.d ≠ .int k) (he : T e = some ei) (hs : ei.size = sz) (h0 : 1 ≤ sz) (hzk : zok ei = true)
    {y : V} {news : List (List V)} (hy : xnews h sz y = some (news.length, news.flatten)) (hnz : ∀ r ∈ news, r.length = sz) (hnp : news ≠ []) (hb : (n + news.length) * ei.bytes ≤ 140737488355328) (hb2 : n + news.length ≤ 4611686018427387904) :
    ∃ h', xapp T h t u (.slc a n f) y = some (.slc (some (h.next, 0)) (n + news.length) false, h') ∧ Own sz (some (h.next, 0)) (n + news.length) (rows ++ news) h' [h.next] ∧ Upd h h' F [h.next] ∧ h'.wf := by
  obtain ⟨h1, h2, h3⟩ := ho
  subst hs
  have hlen : news.length ≠ 0 := fun e => hnp (List.eq_nil_of_length_eq_zero e)
  have hcnd : (Nat.ble ((n + news.length) * ei.bytes) 140737488355328 && (Nat.ble (n + news.length) 4611686018427387904 && (Nat.ble 1 ei.size && zok ei))) = true := by
    simp only [Bool.and_eq_true, ble_eq', decide_eq_true_eq]; exact ⟨hb, hb2, h0, hzk⟩
  have hall : ∀ r ∈ rows ++ news, r.length = ei.size := fun r hr => (List.mem_append.1 hr).elim (h2 r) (hnz r)
  have hbq : Nat.beq news.length 0 = false := by
    cases hq : Nat.beq news.length 0 with
    | false => rfl
    | true => exact absurd (Nat.eq_of_beq_eq_true hq) hlen
  cases a with
  | none =>
    obtain ⟨rfl, rfl⟩ := h3
    obtain rfl : n = 0 := by simpa using h1.symm
    refine ⟨h.alloc (.row news.flatten ei.size false), ?_, ⟨by simp, by simpa using hnz, rfl, [], rfl, by simp [Hp.get_alloc_self]⟩, ⟨fun j hj _ => Hp.get_alloc_ne (by omega), fun j hj => by rw [List.mem_singleton] at hj; exact .inr (by omega), Nat.le_succ _⟩, hw.alloc⟩
    have hres : xapp T h t u (.slc none 0 f) y = some (.slc (some (h.next, 0)) news.length false, h.alloc (.row news.flatten ei.size false)) := by
      unfold xapp
      rw [ht, hu]
      simp only [hd]
      cases hq : ui.d <;> first | exact absurd hq (hud _) | (simp only [he, hy, hbq, cond_false]; rw [hcnd]; rfl)
    rw [hres]; simp
  | some p =>
    obtain ⟨q, o⟩ := p
    obtain ⟨rfl, front, back, rfl, hg⟩ := h3
    have hfl := flatten_len ei.size rows h2
    have hcut : Go.Vex.cut (front ++ (rows.flatten ++ back)) front.length (n * ei.size) = some rows.flatten := by
      unfold Go.Vex.cut
      rw [show Nat.ble (front.length + n * ei.size) (front ++ (rows.flatten ++ back)).length = true from by simp only [ble_eq', decide_eq_true_eq, List.length_append, hfl, h1]; omega]
      simp only [cond_true, List.drop_left]
      rw [List.take_append_of_le_length (by rw [hfl, h1]; omega), List.take_of_length_le (by rw [hfl, h1]; omega)]
    have hqn := hw.ne hg
    cases f with
    | true =>
      refine ⟨h.alloc (.row (rows.flatten ++ news.flatten) ei.size false), ?_, ⟨by simp [h1], hall, rfl, [], rfl, by simp [Hp.get_alloc_self]⟩, ⟨fun j hj _ => Hp.get_alloc_ne (by omega), fun j hj => by rw [List.mem_singleton] at hj; exact .inr (by omega), Nat.le_succ _⟩, hw.alloc⟩
      unfold xapp
      rw [ht, hu]
      simp only [hd]
      cases hq : ui.d <;> first | exact absurd hq (hud _) | (simp only [he, hy, hbq, cond_false]; rw [hcnd]; simp only [cond_true, hg, hcut, Nat.beq_refl])
    | false =>
      refine ⟨(h.kill q).alloc (.row (rows.flatten ++ news.flatten) ei.size false), ?_, ⟨by simp [h1], hall, rfl, [], rfl, ?_⟩, ⟨fun j hj hF => ?_, fun j hj => by rw [List.mem_singleton] at hj; exact .inr (by omega), Nat.le_succ _⟩, ?_⟩
      · unfold xapp
        rw [ht, hu]
        simp only [hd]
        cases hq : ui.d <;> first | exact absurd hq (hud _) | (simp only [he, hy, hbq, cond_false]; rw [hcnd]; simp only [cond_true, cond_false, hg, hcut, Nat.beq_refl, Bool.not_false])
      · have := Hp.get_alloc_self (h := h.kill q) (o := .row (rows.flatten ++ news.flatten) ei.size false)
        simpa using this
      · rw [Hp.get_alloc_ne (by simp; omega), Hp.get_kill_ne (by simpa using hF)]
      · have hk : (h.kill q).wf := fun j o hj => by
          rw [Hp.get_kill] at hj
          split at hj
          · cases hj
          · exact hw j o hj
        exact hk.alloc
end

/-! ### the record of a loop over a function -/

theorem LRec.ne {rec : LoopState → Option Code → O} (r : LRec rec) {st : LoopState} {pe : Option Code} : (rec st pe).rw = true := by
  obtain ⟨_, _, _, _, _, _, rfl⟩ := r.ex; rfl

theorem XYield.cps {P : Program} {l : Nat} {vs : List V} {h : Hp} {K : V → Hp → Prop} (hx : ∀ K' : V → Hp → Prop, (∀ v h', K v h' → K' v h') → XYield P l vs h K') : XYield P l vs h K := hx K fun _ _ h => h

theorem shut_one {d : Nat} {h : Hp} (hd : h.get d = some (.dfr true)) : shut [d] h = some (h.set d (.dfr false)) := by
  simp [shut, hd]
end Go.Vex
