/-
  VEX, part EE: a range over a map whose loop leaves the map as it is.
-/
import Derived.Test.YtkfnokgfgcfldaaGreatVexDD
set_option linter.unusedSimpArgs false
set_option linter.unusedVariables false
namespace Go.Vex

section
variable {κ β : Type}

/-- how many have come -/
def itN (it : Nat) (h : Hp) : Nat := match h.get it with
  | some (.miter _ _ sn _) => sn.length
  | _ => 0

/-- a range over the entries l of map m: those of 'done' have come -/
structure Itr (kV : κ → V) (vV : β → V) (l : List (κ × β)) (m it : Nat) (done : List (κ × β)) (h : Hp) : Prop where
  ex : ∃ cur sn, MapIter kV vV cur m it sn h ∧ cur.map Prod.fst = l ∧ (done ++ (rem cur sn).map Prod.fst).Perm l ∧ sn.length = done.length
  ne : m ≠ it

variable {kV : κ → V} {vV : β → V} {l done : List (κ × β)} {m it : Nat} {h : Hp}

theorem Itr.keep {h' : Hp} (i : Itr kV vV l m it done h) (h1 : h'.get m = h.get m) (h2 : h'.get it = h.get it) : Itr kV vV l m it done h' := by
  obtain ⟨⟨cur, sn, a, b, c, d⟩, e⟩ := i
  exact ⟨⟨cur, sn, a.keep h1 h2, b, c, d⟩, e⟩

theorem Itr.sub (i : Itr kV vV l m it done h) : ∀ x ∈ done, x ∈ l := fun x hx => by
  obtain ⟨⟨cur, sn, a, b, c, d⟩, e⟩ := i
  exact c.subset (List.mem_append_left _ hx)

theorem Itr.count (i : Itr kV vV l m it done h) : itN it h = done.length := by
  obtain ⟨⟨cur, sn, a, b, c, d⟩, e⟩ := i
  obtain ⟨clk, _, _, e3⟩ := a.ex
  simp only [itN, e3]; exact d

theorem Itr.le (i : Itr kV vV l m it done h) : done.length ≤ l.length := by
  obtain ⟨⟨cur, sn, a, b, c, d⟩, e⟩ := i
  have := c.length_eq
  simp only [List.length_append] at this
  omega

theorem MO.iter [DecidableEq κ] {T : TT} {t : TypeId} {z : V} {o : O} (ho : MO kV vV l o) (M : MT T t kV z) (hg : h.get m = some o) (hw : h.wf) :
    ∃ g, xrange T h t (.map (some m)) = some (.ptr (some (h.next, 0)), g) ∧ Itr kV vV l m h.next [] g ∧ (∀ j, j ≠ h.next → g.get j = h.get j) ∧ g.next = h.next + 1 ∧ g.wf := by
  obtain ⟨ti, kt, et, ei, ht, hd, he, hz, K⟩ := M.ex
  obtain ⟨g, cur, hx, hi, hcur, hsame, hnext, hwg⟩ := (ho.is hg).range hw ht hd
  exact ⟨g, hx, ⟨⟨cur, [], hi, hcur, by rw [rem_nil, hcur]; exact .refl _, rfl⟩, hw.ne hg⟩, hsame, hnext, hwg⟩

theorem Itr.next (i : Itr kV vV l m it done h) (hw : h.wf) :
    ∃ r, xnext h (.ptr (some (it, 0))) = some r ∧ ((.tup [.bool false], h) ∈ r → done.Perm l) ∧ (∀ x ∈ r, x = (.tup [.bool false], h) ∨ ∃ a b, x.1 = .tup [.bool true, a, b]) ∧
      ∀ (a b : V) (h2 : Hp), (.tup [.bool true, a, b], h2) ∈ r → ∃ z : κ × β, z ∈ l ∧ a = kV z.1 ∧ b = vV z.2 ∧ xentry h2 (.ptr (some (it, 0))) = some (.tup [kV z.1, vV z.2]) ∧
        (∀ j, j ≠ it → h2.get j = h.get j) ∧ h2.next = h.next ∧ h2.wf ∧ (∃ rest, (done ++ z :: rest).Perm l) ∧
        ∀ h5 : Hp, h5.get m = h2.get m → h5.get it = h2.get it → Itr kV vV l m it (done ++ [z]) h5 ∧ l.length - itN it h5 < l.length - itN it h := by
  have i0 := i
  obtain ⟨⟨cur, sn, a, b, c, d⟩, e⟩ := i
  obtain ⟨r, hr, hend, hforms, hstep⟩ := a.next e
  refine ⟨r, hr, fun hm => ?_, hforms, fun x y h2 hm => ?_⟩
  · rw [hend hm] at c; simpa using c
  obtain ⟨z, hz, rfl, rfl, hi2, hent, hs2, hn2⟩ := hstep x y h2 hm
  have hrs := (rem_step a.nodup hz).map Prod.fst
  rw [List.map_cons] at hrs
  have hc2 : (done ++ z.1 :: (rem cur (sn ++ [z.2])).map Prod.fst).Perm l := ((hrs.symm).append_left done).trans c
  have hw2 : h2.wf := fun q o' hq => by
    rw [hn2]
    by_cases ei : q = it
    · obtain ⟨clk, _, _, e3⟩ := a.ex
      have := hw _ _ e3; omega
    · rw [hs2 q ei] at hq; exact hw q o' hq
  refine ⟨z.1, c.subset (List.mem_append_right _ (List.mem_map_of_mem hz)), rfl, rfl, hent, hs2, hn2, hw2, ⟨_, hc2⟩, fun h5 e1 e2 => ?_⟩
  have i5 : Itr kV vV l m it (done ++ [z.1]) h5 := ⟨⟨cur, _, hi2.keep e1 e2, b, by rw [List.append_assoc]; exact hc2, by simp [d]⟩, e⟩
  refine ⟨i5, ?_⟩
  rw [i5.count, i0.count]
  have := i5.le
  simp only [List.length_append, List.length_singleton] at this ⊢
  omega

end

/-! ### append of a slice of one's own, or of what is empty -/

section
variable {sz n : Nat} {a : Option (Nat × Nat)} {rows : List (List V)} {h : Hp} {F : List Nat}

theorem Ow.news (ho : Ow sz a n rows h F) (f : Bool) : xnews h sz (.slc a n f) = some (rows.length, rows.flatten) := by
  obtain ⟨h1, h2, h3⟩ := ho
  cases a with
  | none => obtain ⟨rfl, _⟩ := h3; rfl
  | some p =>
    obtain ⟨q, o⟩ := p
    obtain ⟨rfl, front, back, rfl, hg⟩ := h3
    have hfl := flatten_len sz rows h2
    have hcut : Vex.cut (front ++ (rows.flatten ++ back)) front.length (n * sz) = some rows.flatten := by
      unfold Vex.cut
      rw [show Nat.ble (front.length + n * sz) (front ++ (rows.flatten ++ back)).length = true from by simp only [ble_eq', decide_eq_true_eq, List.length_append, hfl, h1]; omega]
      simp only [cond_true, List.drop_left]
      rw [List.take_append_of_le_length (by rw [hfl, h1]; omega), List.take_of_length_le (by rw [hfl, h1]; omega)]
    cases hn0 : Nat.beq n 0 with
    | true =>
      have hn := Nat.eq_of_beq_eq_true hn0
      have : rows = [] := List.length_eq_zero_iff.1 (by omega)
      subst this
      simp only [xnews, hn0, cond_true]; rfl
    | false => simp only [xnews, hn0, cond_false, hg, Nat.beq_refl, cond_true, hcut, Option.map_some, h1]

theorem Own.apps {T : TT} {t u e : TypeId} {ti ui ei : TI} {f : Bool} (ho : Own sz a n rows h F) (hw : h.wf) (ht : T t = some ti) (hd : ti.d = .slc e) (hu : T u = some ui) (hud : ∀ k, ui.d ≠ .int k) (he : T e = some ei) (hs : ei.size = sz) (h0 : 1 ≤ sz) (hzk : zok ei = true)
    {y : V} {news : List (List V)} (hy : xnews h sz y = some (news.length, news.flatten)) (hnz : ∀ r ∈ news, r.length = sz) (hb : (n + news.length) * ei.bytes ≤ 140737488355328) (hb2 : n + news.length ≤ 4611686018427387904) :
    ∃ a' f' G h', xapp T h t u (.slc a n f) y = some (.slc a' (n + news.length) f', h') ∧ Own sz a' (n + news.length) (rows ++ news) h' G ∧ Upd h h' F G ∧ h'.wf := by
  by_cases hnp : news = []
  · subst hnp
    refine ⟨a, f, F, h, ?_, by simpa using ho, Upd.refl h F, hw⟩
    subst hs
    unfold xapp
    rw [ht, hu]
    simp only [hd]
    cases hq : ui.d <;> first | exact absurd hq (hud _) | (simp only [he, hy]; rfl)
  · obtain ⟨h', hx, ho', u, w⟩ := ho.app hw ht hd hu hud he hs h0 hzk hy hnz hnp hb hb2
    exact ⟨_, _, _, h', hx, ho', u, w⟩

theorem Own.sub (ho : Own sz a n rows h F) {k : Nat} {r : List V} {q o : Nat} (hk : rows[k]? = some r) (ha : a = some (q, o)) {i l : Nat} (hl : i + l ≤ sz) : h.lda q (o + k * sz + i) l = some (.agg ((r.drop i).take l)) := by
  obtain ⟨h1, h2, h3⟩ := ho
  subst ha
  obtain ⟨rfl, front, rfl, hg⟩ := h3
  have hkl := (List.getElem?_eq_some_iff.1 hk).1
  have hfl := flatten_len sz rows h2
  have hle : k * sz + sz ≤ rows.length * sz := by
    have := Nat.mul_le_mul_right sz (show k + 1 ≤ rows.length from hkl)
    rw [Nat.succ_mul] at this; exact this
  rw [Hp.lda_of hg (by rw [List.length_append, hfl]; omega)]
  congr 2
  apply List.ext_getElem?
  intro j
  rw [List.getElem?_take, List.getElem?_drop, List.getElem?_take, List.getElem?_drop]
  split
  · rename_i hj
    have := getElem?_mid front rows h2 (k := k) (j := i + j) (by omega)
    rw [show front.length + k * sz + i + j = front.length + k * sz + (i + j) by omega, this, hk]; rfl
  · rfl
end
end Go.Vex
