/-
  VEX, part D: what is read from memory; the quiet operations as one function, 'xq', and its law.
-/
import Derived.Test.YtkfnokgfgcfldaaGreatVexC
set_option linter.unusedSimpArgs false
set_option linter.unusedVariables false
namespace Go.Vex

section
variable {P : Program} {T : TT} {B : Nat} {ρ : Env} {h : Hp} {w : World}

theorem add_mk (b o n : Nat) : (⟨b, o, none⟩ : Addr).add n = ⟨b, o + n, none⟩ := Addr.add_lit b o n

theorem Sat.cell (s : Sat B ρ h w) {i : Nat} {c : List V} {esz : Nat} {ro : Bool} (hi : h.get i = some (.row c esz ro)) {j : Nat} {v : V} (hj : c[j]? = some v) :
    ∃ x, w.cell? ⟨(ρ i).blk, (ρ i).base + j, none⟩ = some x ∧ VR h.next ρ v x := by
  obtain ⟨_, _, C, el, fr, h1, _, _, h4, _⟩ := s.obj i _ hi
  obtain ⟨x, hx, hv⟩ := h4 j v hj
  exact ⟨x, by simp [World.cell?, h1, hx], hv⟩

theorem Sat.esz (s : Sat B ρ h w) {i : Nat} {c : List V} {esz : Nat} {ro : Bool} (hi : h.get i = some (.row c esz ro)) : (ρ i).esz = esz := (s.obj i _ hi).2.1
theorem Sat.lt (s : Sat B ρ h w) {i : Nat} {o : O} (hi : h.get i = some o) : i < h.next := (s.obj i _ hi).1
theorem Sat.lim (s : Sat B ρ h w) {i : Nat} {c : List V} {esz : Nat} {ro : Bool} (hi : h.get i = some (.row c esz ro)) : c.length ≤ (ρ i).lim := by
  obtain ⟨_, _, C, el, fr, _, _, h3, _⟩ := s.obj i _ hi
  exact h3

theorem cut_some {c : List V} {o n : Nat} {l : List V} (hc : cut c o n = some l) : o + n ≤ c.length ∧ l = (c.drop o).take n ∧ l.length = n := by
  unfold cut at hc
  cases hb : Nat.ble (o + n) c.length with
  | false => rw [hb] at hc; cases hc
  | true =>
    rw [hb] at hc; cases hc
    have := Nat.le_of_ble_eq_true hb
    exact ⟨this, rfl, by simp; omega⟩

theorem cut_mk {c : List V} {o n : Nat} (hb : o + n ≤ c.length) : cut c o n = some ((c.drop o).take n) := by
  unfold cut
  rw [Nat.ble_eq_true_of_le hb]; rfl

/-- the cells that are cut out of a row, as the world holds them -/
theorem Sat.cells (s : Sat B ρ h w) {i : Nat} {c : List V} {esz : Nat} {ro : Bool} (hi : h.get i = some (.row c esz ro)) {o n : Nat} {l : List V} (hc : cut c o n = some l) {a : Addr}
    (ha : 0 < n → a = ⟨(ρ i).blk, (ρ i).base + o, none⟩) :
    ∃ xs : List Value, xs.length = n ∧ VRs h.next ρ l xs ∧ ∀ j x, xs[j]? = some x → w.cell? (a.add j) = some x := by
  obtain ⟨h1, rfl, h3⟩ := cut_some hc
  refine ⟨(List.range n).map fun j => (w.cell? (a.add j)).getD undef, by simp, VRs.of_get (by simp; omega) (fun j v hj => ?_), fun j x hj => ?_⟩
  · rw [List.getElem?_take] at hj
    split at hj
    · rename_i hlt
      rw [List.getElem?_drop] at hj
      obtain ⟨x, hx, hv⟩ := s.cell hi hj
      have e : w.cell? (a.add j) = some x := by
        rw [ha (by omega), add_mk, Nat.add_assoc]; exact hx
      exact ⟨x, by simp [hlt, e], hv⟩
    · cases hj
  · simp only [List.getElem?_map, Option.map_eq_some_iff] at hj
    obtain ⟨k, hk, rfl⟩ := hj
    have hkn : j < n ∧ k = j := by
      rw [List.getElem?_eq_some_iff] at hk
      obtain ⟨hl, e⟩ := hk
      simp at hl e
      exact ⟨hl, e.symm⟩
    obtain ⟨hlt, rfl⟩ := hkn
    obtain ⟨v, hv⟩ : ∃ v, c[o + k]? = some v := ⟨_, List.getElem?_eq_getElem (by omega)⟩
    obtain ⟨x, hx, _⟩ := s.cell hi hv
    have e : w.cell? (a.add k) = some x := by
      rw [ha (by omega), add_mk, Nat.add_assoc]; exact hx
    rw [e]; rfl

/-! ### load -/

def xload (T : TT) (h : Hp) (t : TypeId) (x : V) : Option V :=
  match x with
  | .ptr (some (i, o)) =>
    match h.get i with
    | some (.row c _ _) => xpart T t c o
    | _ => none
  | _ => none

theorem xload_sound (hT : TTok P T) (s : Sat B ρ h w) {t : TypeId} {x : V} {u : Value} {r : V} (hx : VR h.next ρ x u) (hr : xload T h t x = some r) :
    ∃ z, (Instr.loadAt t u).run P w = .ok z w ∧ VR h.next ρ r z := by
  unfold xload at hr
  split at hr
  · rename_i i o
    obtain ⟨_, rfl⟩ := hx
    split at hr
    · rename_i c esz ro hi
      unfold xpart at hr
      split at hr
      · cases hr
      · rename_i ti ht
        simp only [Instr.loadAt, Instr.sureAddr, Sem.run_bind, Sem.run_pure, Result.andThen_ok, loadVar, hT.isAgg ht]
        cases hag : ti.d.isAgg with
        | true =>
          rw [hag] at hr
          simp only [cond_true] at hr
          cases hb : Nat.ble (o + ti.size) c.length with
          | false => rw [hb] at hr; cases hr
          | true =>
            rw [hb] at hr
            cases hr
            have hle := Nat.le_of_ble_eq_true hb
            obtain ⟨xs, hl, hv, hc⟩ := s.cells hi (cut_mk hle) (a := ⟨(ρ i).blk, (ρ i).base + o, none⟩) (fun _ => rfl)
            have hrun := run_loadCells_list (P := P) w ⟨(ρ i).blk, (ρ i).base + o, none⟩ xs hc
            rw [hl] at hrun
            simp only [if_true, Sem.run_bind, hT.size ht, Result.andThen_ok, hrun, Sem.run_pure]
            exact ⟨_, rfl, _, rfl, by simpa using hv⟩
        | false =>
          rw [hag] at hr
          simp only [cond_false] at hr
          obtain ⟨x, hx, hv⟩ := s.cell hi hr
          simp only [Bool.false_eq_true, if_false]
          exact ⟨x, by simp [run_load, hx], hv⟩
    · cases hr
  · cases hr

/-! ### addresses -/

def xfieldAddr (T : TT) (t : TypeId) (x : V) (f : Nat) : Option V :=
  match T t, x with
  | some ti, .ptr (some (i, o)) =>
    match ti.d with
    | .struct fs =>
      match fs[f]? with
      | some (off, ft, _) =>
        match T ft with
        | some fi => bif Nat.beq fi.size 0 then none else some (.ptr (some (i, o + off)))
        | none => none
      | none => none
    | _ => none
  | _, _ => none

theorem xfieldAddr_sound (hT : TTok P T) (w : World) {N : Nat} {t : TypeId} {x : V} {u : Value} {f : Nat} {r : V} (hx : VR N ρ x u) (hr : xfieldAddr T t x f = some r) :
    ∃ z, (Instr.fieldAt t u f).run P w = .ok z w ∧ VR N ρ r z := by
  unfold xfieldAddr at hr
  split at hr
  · rename_i ti i o ht
    obtain ⟨hi, rfl⟩ := hx
    split at hr
    · rename_i fs hd
      obtain ⟨gs, hg, rfl⟩ := hT.struct ht hd
      split at hr
      · rename_i off ft nm hf
        split at hr
        · rename_i fi hft
          cases hz : Nat.beq fi.size 0 with
          | true => rw [hz] at hr; cases hr
          | false =>
            rw [hz] at hr
            cases hr
            rw [List.getElem?_map] at hf
            obtain ⟨fd, hfd, e⟩ := Option.map_eq_some_iff.1 hf
            cases e
            have hn0 : ¬ fi.size = 0 := by
              intro e; rw [e] at hz; cases hz
            have hfd' : gs[f]? = some fd := by simpa using hfd
            simp only [Instr.fieldAt, Sem.run_bind, run_underlying hg, Result.andThen_ok, hfd', Instr.sureAddr, Sem.run_pure, fieldPlace, hT.size hft, if_neg hn0, add_mk]
            exact ⟨_, rfl, hi, by rw [Nat.add_assoc]⟩
        · cases hr
      · cases hr
    · cases hr
  · cases hr

def xindexAddr (T : TT) (t : TypeId) (x ix : V) : Option V :=
  match T t, ix with
  | some ti, .int _ j =>
    match ti.d, x with
    | .slc e, .slc (some (i, o)) n _ =>
      match T e with
      | some ei => if 0 ≤ j ∧ j < n then some (.ptr (some (i, o + j.toNat * ei.size))) else none
      | none => none
    | .arr n e, .ptr (some (i, o)) =>
      match T e with
      | some ei => if 0 ≤ j ∧ j < n then some (.ptr (some (i, o + j.toNat * ei.size))) else none
      | none => none
    | _, _ => none
  | _, _ => none

theorem xindexAddr_sound (hT : TTok P T) (w : World) {N : Nat} {t : TypeId} {x ix : V} {u iu : Value} {r : V} (hx : VR N ρ x u) (hix : VR N ρ ix iu) (hr : xindexAddr T t x ix = some r) :
    ∃ z, (Instr.indexAt t u iu).run P w = .ok z w ∧ VR N ρ r z := by
  unfold xindexAddr at hr
  split at hr
  · rename_i ti k j ht
    rw [show iu = _ from hix]
    split at hr
    · rename_i e i o n f hd
      obtain ⟨hi, a, cap, rfl, hb, hsp, hn, _, hoff⟩ := hx
      split at hr
      · rename_i ei hei
        split at hr
        · rename_i hj
          cases hr
          have hu := hT.slc ht hd
          have he : P.elem t = e := by simp [Program.elem, hu]
          rw [run_indexAt_slice w t a n cap k j (by rw [he]; exact hu), if_pos hj, he, hT.size hei]
          obtain ⟨h1, h2⟩ := hoff (by omega)
          have hsp' := hsp (by omega)
          clear hsp
          refine ⟨_, rfl, hi, ?_⟩
          obtain ⟨ab, ao, asp⟩ := a
          simp only at hb hsp' h1
          subst hb hsp' h1
          rw [add_mk, Nat.add_assoc]
        · cases hr
      · cases hr
    · rename_i n e i o hd
      obtain ⟨hi, rfl⟩ := hx
      split at hr
      · rename_i ei hei
        split at hr
        · rename_i hj
          cases hr
          have hu := hT.arr ht hd
          have he : P.elem t = e := by simp [Program.elem, hu]
          have hl : P.arrayLen t = n := by simp [Program.arrayLen, hu]
          rw [run_indexAt_array w t _ k j (by rw [he, hl]; exact hu), hl, if_pos hj, he, hT.size hei]
          refine ⟨_, rfl, hi, ?_⟩
          rw [add_mk, Nat.add_assoc]
        · cases hr
      · cases hr
    · cases hr
  · cases hr

/-! ### a part of a value -/

def xfield (T : TT) (t : TypeId) (x : V) (f : Nat) : Option V :=
  match T t, x with
  | some ti, .agg cs =>
    match ti.d with
    | .struct fs =>
      match fs[f]? with
      | some (off, ft, _) => xpart T ft cs off
      | none => none
    | _ => none
  | _, _ => none

theorem xfield_sound (hT : TTok P T) (w : World) {N : Nat} {t : TypeId} {x : V} {u : Value} {f : Nat} {r : V} (hx : VR N ρ x u) (hr : xfield T t x f = some r) :
    ∃ z, (Instr.field t u f).run P w = .ok z w ∧ VR N ρ r z := by
  unfold xfield at hr
  split at hr
  · rename_i ti cs ht
    obtain ⟨us, rfl, hus⟩ := hx
    split at hr
    · rename_i fs hd
      obtain ⟨gs, hg, rfl⟩ := hT.struct ht hd
      split at hr
      · rename_i off ft nm hf
        rw [List.getElem?_map] at hf
        obtain ⟨fd, hfd, e⟩ := Option.map_eq_some_iff.1 hf
        cases e
        have hfd' : gs[f]? = some fd := by simpa using hfd
        obtain ⟨z, hz, hv⟩ := xpart_sound hT w hr hus
        exact ⟨z, by simp only [Instr.field, Sem.run_bind, run_underlying hg, Result.andThen_ok, hfd', asAgg, Sem.run_pure, hz], hv⟩
      · cases hr
    · cases hr
  · cases hr

def xindex (T : TT) (t : TypeId) (x ix : V) : Option V :=
  match T t, ix with
  | some ti, .int _ j =>
    match ti.d, x with
    | .str, .str s => if 0 ≤ j then (s[j.toNat]?).map fun b => V.int .u8 b.toNat else none
    | .arr n e, .agg cs =>
      match T e with
      | some ei => if 0 ≤ j ∧ j < n then xpart T e cs (j.toNat * ei.size) else none
      | none => none
    | _, _ => none
  | _, _ => none

theorem xindex_sound (hT : TTok P T) (w : World) {N : Nat} {t : TypeId} {x ix : V} {u iu : Value} {r : V} (hx : VR N ρ x u) (hix : VR N ρ ix iu) (hr : xindex T t x ix = some r) :
    ∃ z, (Instr.index t u iu).run P w = .ok z w ∧ VR N ρ r z := by
  unfold xindex at hr
  split at hr
  · rename_i ti k j ht
    rw [show iu = _ from hix]
    split at hr
    · rename_i s hd
      rw [show u = _ from hx]
      split at hr
      · rename_i hj
        obtain ⟨b, hb, rfl⟩ := Option.map_eq_some_iff.1 hr
        obtain ⟨hl, e⟩ := List.getElem?_eq_some_iff.1 hb
        have hsz : (ByteArray.mk s.toArray).size = s.length := by simp [ByteArray.size]
        have h1 : (if 0 ≤ j then (ByteArray.mk s.toArray)[j.toNat]? else none) = some b := by
          rw [if_pos hj, ByteArray.getElem?_lt' _ _ (by rw [hsz]; exact hl)]
          congr 1
        refine ⟨.int .u8 b.toNat, ?_, rfl⟩
        simp only [Instr.index, Sem.run_bind, asIntOf, Sem.run_pure, Result.andThen_ok, run_underlying (hT.str ht hd), h1]
      · cases hr
    · rename_i n e cs hd
      obtain ⟨us, rfl, hus⟩ := hx
      split at hr
      · rename_i ei hei
        split at hr
        · rename_i hj
          obtain ⟨z, hz, hv⟩ := xpart_sound hT w hr hus
          exact ⟨z, by simp only [Instr.index, Sem.run_bind, asIntOf, Sem.run_pure, Result.andThen_ok, run_underlying (hT.arr ht hd), if_pos hj, hT.size hei, hz], hv⟩
        · cases hr
      · cases hr
    · cases hr
  · cases hr

/-! ### x[lo:hi] -/

def bnd (o : Option V) (d : Nat) : Option Nat :=
  match o with
  | none => some d
  | some (.int _ n) => if 0 ≤ n then some n.toNat else none
  | some _ => none

def xslice (T : TT) (h : Hp) (t : TypeId) (x : V) (lo hi mx : Option V) : Option V :=
  match T t with
  | none => none
  | some ti =>
    match ti.d, x with
    | .str, .str s =>
      match mx, bnd lo 0, bnd hi s.length with
      | none, some l, some m => if l ≤ m ∧ m ≤ s.length then some (.str ((s.drop l).take (m - l))) else none
      | _, _, _ => none
    | .slc e, .slc none 0 f =>
      match T e, bnd lo 0, bnd hi 0, bnd mx 0 with
      | some _, some l, some m, some q => if l ≤ m ∧ m ≤ q ∧ q ≤ 0 ∧ (mx.isSome = true → hi.isSome = true) then some (.slc none 0 true) else none
      | _, _, _, _ => none
    | .slc e, .slc (some (i, o)) n f =>
      match T e, h.get i, bnd lo 0, bnd hi n, bnd mx n with
      | some ei, some (.row _ esz _), some l, some m, some q =>
        if l ≤ m ∧ m ≤ q ∧ q ≤ n ∧ ei.size = esz ∧ (mx.isSome = true → hi.isSome = true) then some (.slc (some (i, o + l * ei.size)) (m - l) ((mx.isSome || f) && Nat.beq m q)) else none
      | _, _, _, _, _ => none
    | .arr n e, .ptr (some (i, o)) =>
      match mx, T e, h.get i, bnd lo 0, bnd hi n with
      | none, some ei, some (.row c esz _), some l, some m => if l ≤ m ∧ m ≤ n ∧ ei.size = esz ∧ o + n * esz ≤ c.length then some (.slc (some (i, o + l * ei.size)) (m - l) (Nat.beq m n)) else none
      | _, _, _, _, _ => none
    | _, _ => none

/-- an optional bound and its value -/
def OptR (N : Nat) (ρ : Env) : Option V → Option Value → Prop
  | none, x => x = none
  | some v, x => ∃ y, x = some y ∧ VR N ρ v y

theorem bnd_cases {N : Nat} {lo : Option V} {lu : Option Value} {d l : Nat} (hlo : OptR N ρ lo lu) (hl : bnd lo d = some l) : (lo = none ∧ lu = none ∧ l = d) ∨ ∃ k n, lo.isSome = true ∧ lu = some (.int k n) ∧ 0 ≤ n ∧ l = n.toNat := by
  cases lo with
  | none => rw [show lu = none from hlo]; simp [bnd] at hl; exact .inl ⟨rfl, rfl, hl.symm⟩
  | some v =>
    obtain ⟨y, rfl, hy⟩ := hlo
    cases v <;> simp [bnd] at hl
    rw [show y = _ from hy]
    exact .inr ⟨_, _, rfl, rfl, hl.1, hl.2.symm⟩

theorem bnds_run {N : Nat} {lo hi mx : Option V} {lu hu mu : Option Value} (hlo : OptR N ρ lo lu) (hhi : OptR N ρ hi hu) (hmx : OptR N ρ mx mu) {len cap l m q : Nat} (isS : Bool) (hl : bnd lo 0 = some l) (hm : bnd hi len = some m)
    (hq : bnd mx cap = some q) (hlm : l ≤ m) (hmq : m ≤ q) (hqc : q ≤ cap) (hmh : mx.isSome = true → hi.isSome = true) :
    (Instr.sliceBounds isS len cap lu hu mu).run P w = .ok (l, m, q) w := by
  have e1 := bnd_cases hlo hl
  have e2 := bnd_cases hhi hm
  have e3 := bnd_cases hmx hq
  unfold Instr.sliceBounds
  rcases e3 with ⟨rfl, rfl, rfl⟩ | ⟨k3, n3, hs3, rfl, hn3, rfl⟩
  · rcases e2 with ⟨rfl, rfl, rfl⟩ | ⟨k, n, _, rfl, hn, rfl⟩
    · rcases e1 with ⟨rfl, rfl, rfl⟩ | ⟨k', n', _, rfl, hn', rfl⟩
      · simp [Sem.run_bind]
      · simp [Sem.run_bind, run_sliceBound w k' n' m _ hn' (by omega)]
    · rcases e1 with ⟨rfl, rfl, rfl⟩ | ⟨k', n', _, rfl, hn', rfl⟩
      · simp [Sem.run_bind, run_sliceBound w k n q _ hn (by omega)]
      · simp [Sem.run_bind, run_sliceBound w k n q _ hn (by omega), run_sliceBound w k' n' n.toNat _ hn' (by omega)]
  · rcases e2 with ⟨rfl, rfl, rfl⟩ | ⟨k, n, _, rfl, hn, rfl⟩
    · have := hmh hs3; cases this
    · rcases e1 with ⟨rfl, rfl, rfl⟩ | ⟨k', n', _, rfl, hn', rfl⟩
      · simp [Sem.run_bind, run_sliceBound w k3 n3 cap _ hn3 (by omega), run_sliceBound w k n n3.toNat _ hn (by omega)]
      · simp [Sem.run_bind, run_sliceBound w k3 n3 cap _ hn3 (by omega), run_sliceBound w k n n3.toNat _ hn (by omega), run_sliceBound w k' n' n.toNat _ hn' (by omega)]

theorem xslice_sound (hT : TTok P T) (s : Sat B ρ h w) {t : TypeId} {x : V} {lo hi mx : Option V} {u : Value} {lu hu mu : Option Value} {r : V} (hx : VR h.next ρ x u) (hlo : OptR h.next ρ lo lu) (hhi : OptR h.next ρ hi hu)
    (hmx : OptR h.next ρ mx mu) (hr : xslice T h t x lo hi mx = some r) : ∃ z, (Instr.sliceAt t u lu hu mu).run P w = .ok z w ∧ VR h.next ρ r z := by
  unfold xslice at hr
  split at hr
  · cases hr
  · rename_i ti ht
    split at hr
    · rename_i str hd
      rw [show u = _ from hx]
      split at hr
      · rename_i l m hl hm
        split at hr
        · rename_i hb
          cases hr
          rw [show mu = none from hmx]
          have hu' := hT.str ht hd
          have hsz : (ByteArray.mk str.toArray).size = str.length := by simp [ByteArray.size]
          have hbr := bnds_run (P := P) (w := w) hlo hhi (mx := none) (mu := none) rfl (len := str.length) (cap := str.length) false hl hm rfl hb.1 hb.2 (Nat.le_refl _) (fun e => by cases e)
          refine ⟨_, ?_, rfl⟩
          rw [run_sliceAt_string w t _ _ _ _ hu']
          simp only [Instr.slice, Sem.run_bind, run_underlying hu', Result.andThen_ok, hsz, Option.isSome_none, Bool.false_eq_true, if_false, Sem.run_pure, hbr]
          rw [ByteArray.extract_mk]
        · cases hr
      · cases hr
    · rename_i e f hd
      obtain ⟨_, rfl⟩ := hx
      split at hr
      · rename_i ei l m q hei hl hm hq
        split at hr
        · rename_i hb
          cases hr
          have hu' := hT.slc ht hd
          have he : P.elem t = e := by simp [Program.elem, hu']
          obtain ⟨hb1, hb2, hb3, hb5⟩ := hb
          have hl0 : l = 0 := by omega
          have hm0 : m = 0 := by omega
          have hq0 : q = 0 := by omega
          subst hl0; subst hm0; subst hq0
          have hbr := bnds_run (P := P) (w := w) hlo hhi hmx (len := 0) (cap := 0) true hl hm hq hb1 hb2 hb3 hb5
          rw [run_sliceAt_slice w t _ _ _ _ (by rw [he]; exact hu'), run_slice_any w t none 0 0 (by rw [he]; exact hu'), hbr]
          simp only [Result.andThen_ok, he, hT.size hei, sliced]
          exact ⟨_, rfl, rfl, by simp⟩
        · cases hr
      · cases hr
    · rename_i e i o n f hd
      obtain ⟨hi', a, cap, rfl, hb, hsp, hn, hfull, hoff⟩ := hx
      split at hr
      · rename_i ei c esz ro l m q hei hg hl hm hq
        split at hr
        · rename_i hb2
          obtain ⟨hb1, hb2, hb3, hb4, hb5⟩ := hb2
          cases hr
          have hu' := hT.slc ht hd
          have he : P.elem t = e := by simp [Program.elem, hu']
          -- the third bound: what was given, or the capacity
          obtain ⟨q', hq', hqq⟩ : ∃ q', bnd mx cap = some q' ∧ m ≤ q' ∧ q' ≤ cap ∧ ((mx.isSome || f) = true → q' = q) := by
            cases hmx' : mx with
            | none =>
              rw [hmx'] at hq
              simp [bnd] at hq
              refine ⟨cap, rfl, by omega, Nat.le_refl _, fun hf => ?_⟩
              simp at hf
              rw [hfull hf]; exact hq
            | some v =>
              rw [hmx'] at hq
              have : bnd (some v) cap = some q := by
                cases v <;> simp [bnd] at hq ⊢
                exact hq
              exact ⟨q, this, hb2, by omega, fun _ => rfl⟩
          obtain ⟨hq1, hq2, hq3⟩ := hqq
          have hbr := bnds_run (P := P) (w := w) hlo hhi hmx (len := n) (cap := cap) true hl hm hq' hb1 hq1 hq2 hb5
          have hez := s.esz hg
          rw [run_sliceAt_slice w t _ _ _ _ (by rw [he]; exact hu'), run_slice_any w t (some a) n cap (by rw [he]; exact hu'), hbr]
          simp only [Result.andThen_ok, he, hT.size hei, sliced]
          obtain ⟨ab, ao, asp⟩ := a
          simp only at hb hsp hoff
          subst hb
          have hfl : ((mx.isSome || f) && Nat.beq m q) = true → q' - l = m - l := by
            intro hf
            simp only [Bool.and_eq_true] at hf
            rw [hq3 hf.1, ← Nat.eq_of_beq_eq_true hf.2]
          by_cases hcl : q' = l
          · refine ⟨_, rfl, hi', ⟨(ρ i).blk, ao, asp⟩, q' - l, by rw [if_pos hcl], rfl, fun h0 => by omega, by omega, hfl, fun h0 => by omega⟩
          · obtain ⟨h1, h2⟩ := hoff (by omega)
            subst h1
            have hsp' := hsp (by omega)
            subst hsp'
            refine ⟨_, rfl, hi', ⟨(ρ i).blk, (ρ i).base + o + l * ei.size, none⟩, q' - l, by rw [if_neg hcl, Option.map_some, add_mk], rfl, fun _ => rfl, by omega, hfl, fun h0 => ?_⟩
            rw [hez]
            rw [hez] at h2
            refine ⟨by simp only; omega, ?_⟩
            rw [hb4]
            have e1 : q' = l + (q' - l) := by omega
            have e2 : q' * esz = l * esz + (q' - l) * esz := by rw [← Nat.add_mul, ← e1]
            have e3 : q' * esz ≤ cap * esz := Nat.mul_le_mul_right _ hq2
            omega
        · cases hr
      · cases hr
    · rename_i n e i o hd
      obtain ⟨hi', rfl⟩ := hx
      split at hr
      · rename_i ei c esz ro l m hei hg hl hm
        split at hr
        · rename_i hb2
          obtain ⟨hb1, hb2, hb3, hb4⟩ := hb2
          cases hr
          rw [show mu = none from hmx]
          have hu' := hT.arr ht hd
          have hbr := bnds_run (P := P) (w := w) hlo hhi (mx := none) (mu := none) rfl (len := n) (cap := n) false hl hm rfl hb1 hb2 (Nat.le_refl _) (fun e => by cases e)
          have hez := s.esz hg
          have hlim := s.lim hg
          simp only [Instr.sliceAt, Sem.run_bind, run_underlying hu', Result.andThen_ok, Instr.sureAddr, Sem.run_pure, hbr, hT.size hei]
          refine ⟨_, rfl, hi', _, n - l, rfl, ?_, fun _ => ?_, by omega, fun hf => by rw [Nat.eq_of_beq_eq_true hf], fun h0 => ?_⟩
          · by_cases hcl : n = l
            · rw [if_pos hcl]
            · rw [if_neg hcl, add_mk]
          · by_cases hcl : n = l
            · rw [if_pos hcl]
            · rw [if_neg hcl, add_mk]
          · rw [if_neg (by omega), add_mk, hez]
            refine ⟨by simp only; omega, ?_⟩
            rw [hb3]
            have e1 : n = l + (n - l) := by omega
            have e2 : n * esz = l * esz + (n - l) * esz := by rw [← Nat.add_mul, ← e1]
            omega
        · cases hr
      · cases hr
    · cases hr

end
end Go.Vex
