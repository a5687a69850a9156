/-
  VEX, part G: operations that write or make memory: 'xe' and its law.
-/
import Derived.Test.YtkfnokgfgcfldaaGreatVexF
set_option linter.unusedSimpArgs false
set_option linter.unusedVariables false
namespace Go.Vex
open Go.RowKit (Below)

section
variable {P : Program} {T : TT} {B : Nat} {ρ : Env} {h : Hp} {w : World}

theorem VR.one {N : Nat} {v : V} {x : Value} (hv : VR N ρ v x) (ho : v.one = true) : x.oneCell' = true := by
  cases x with
  | agg xs => obtain ⟨vs, e, _⟩ := hv.inv_agg; subst e; cases ho
  | tuple xs =>
    exfalso
    cases v with
    | tup vs => cases ho
    | ptr a => cases a <;> simp [VR] at hv
    | slc a n f => cases a <;> simp [VR] at hv
    | map a => cases a <;> simp [VR] at hv
    | _ => simp [VR] at hv
  | _ => rfl

theorem VRs.ones {N : Nat} : ∀ {vs : List V} {xs : List Value}, VRs N ρ vs xs → (∀ v ∈ vs, v.one = true) → ∀ x ∈ xs, x.oneCell' = true
  | [], _, h, _, x, hx => by rw [show _ = [] from h] at hx; cases hx
  | v :: vs, _, h, ho, x, hx => by
    obtain ⟨y, r, rfl, h1, h2⟩ := h
    rcases List.mem_cons.1 hx with rfl | hm
    · exact h1.one (ho v (List.mem_cons_self ..))
    · exact VRs.ones h2 (fun u hu => ho u (List.mem_cons_of_mem _ hu)) x hm

/-- what is known of a world behind stores into block b -/
structure Stored (w w' : World) (b : Nat) (el : TypeId) (fr : Nat × Nat) (C C' : Array Value) : Prop where
  heap : w'.heap[b]? = some (.cells C' el fr)
  size : C'.size = C.size
  other : ∀ k, k ≠ b → w'.heap[k]? = w.heap[k]?
  hsize : w'.heap.size = w.heap.size
  os : w'.os = w.os
  tape : w'.tape = w.tape
  output : w'.output = w.output

theorem heap_modify_at (hp : Array Obj) (b : Nat) (f : Obj → Obj) (k : Nat) : (hp.modify b f)[k]? = if b = k then hp[k]?.map f else hp[k]? := by
  rw [Array.getElem?_modify]

theorem run_storeCells (P : Program) (b o : Nat) (el : TypeId) (fr : Nat × Nat) : ∀ (vs : List Value) (i : Nat) (C : Array Value) (w : World), w.heap[b]? = some (.cells C el fr) → o + i + vs.length ≤ C.size →
    (∀ v ∈ vs, v.oneCell' = true) → (∀ j, i ≤ j → j < i + vs.length → ¬ (fr.1 ≤ o + j ∧ o + j < fr.2)) →
    ∃ w' C', (storeCells ⟨b, o, none⟩ vs i).run P w = .ok () w' ∧ Stored w w' b el fr C C' ∧ C'.toList = C.toList.take (o + i) ++ vs ++ C.toList.drop (o + i + vs.length)
  | [], i, C, w, hb, hl, _, _ => ⟨w, C, by simp [storeCells], ⟨hb, rfl, fun _ _ => rfl, rfl, rfl, rfl, rfl⟩, by simp⟩
  | v :: vs, i, C, w, hb, hl, h1, hf => by
    simp only [List.length_cons] at hl hf
    have hcell : w.cell? ⟨b, o + i, none⟩ = some C[o + i] := by
      simp [World.cell?, hb, Array.getElem?_eq_getElem (show o + i < C.size by omega)]
    have hfr : w.frozen? ⟨b, o + i, none⟩ = false := by
      have := hf i (Nat.le_refl _) (by omega)
      simp only [World.frozen?, hb]
      simpa using this
    have hb' : (w.setCell ⟨b, o + i, none⟩ v).heap[b]? = some (.cells (C.setIfInBounds (o + i) v) el fr) := by
      simp [World.setCell, heap_modify_at, hb]
    obtain ⟨w', C', hrun, hst, hC⟩ := run_storeCells P b o el fr vs (i + 1) (C.setIfInBounds (o + i) v) (w.setCell ⟨b, o + i, none⟩ v) hb' (by simp; omega)
      (fun u hu => h1 u (List.mem_cons_of_mem _ hu)) (fun j h2 h3 => hf j (by omega) (by omega))
    refine ⟨w', C', ?_, ⟨hst.heap, by rw [hst.size]; simp, fun k hk => ?_, ?_, hst.os, hst.tape, hst.output⟩, ?_⟩
    · simp only [storeCells, Sem.run_bind, add_mk, run_store P w _ v _ (h1 v (List.mem_cons_self ..)), hcell, hfr, Bool.false_eq_true, if_false, Result.andThen_ok, hrun]
    · rw [hst.other k hk]
      simp only [World.setCell, heap_modify_at]
      rw [if_neg (fun e => hk e.symm)]
    · rw [hst.hsize]; simp [World.setCell]
    · rw [hC]
      simp only [Array.toList_setIfInBounds]
      have hlen : o + i < C.toList.length := by simp; omega
      have e1 : (C.toList.set (o + i) v).take (o + (i + 1)) = C.toList.take (o + i) ++ [v] := by
        rw [show o + (i + 1) = (o + i) + 1 by omega, List.take_succ_eq_append_getElem (by simpa using hlen)]
        have e3 : (C.toList.set (o + i) v).take (o + i) = C.toList.take (o + i) := by
          apply List.ext_getElem?
          intro k
          rw [List.getElem?_take, List.getElem?_take]
          split
          · rw [List.getElem?_set_ne (by omega)]
          · rfl
        rw [e3]; simp
      have e2 : (C.toList.set (o + i) v).drop (o + (i + 1) + vs.length) = C.toList.drop (o + i + (vs.length + 1)) := by
        rw [List.drop_set_of_lt (by omega)]
        congr 1; omega
      rw [e1, e2]
      simp

theorem Stored.below {w w' : World} {b : Nat} {el : TypeId} {fr : Nat × Nat} {C C' : Array Value} (hs : Stored w w' b el fr C C') (hb : B ≤ b) : Below B w w' :=
  ⟨hs.os, hs.tape, hs.output, Nat.le_of_eq hs.hsize.symm, fun k hk => hs.other k (by omega)⟩

/-! ### store -/

def ones (l : List V) : Bool := l.all V.one

theorem ones_iff {l : List V} : ones l = true ↔ ∀ v ∈ l, v.one = true := by simp [ones]

def xstore (T : TT) (h : Hp) (t : TypeId) (a x : V) : Option Hp :=
  match T t, a with
  | some ti, .ptr (some (i, o)) =>
    match h.get i with
    | some (.row c esz false) =>
      bif Nat.beq (vcells x).length ti.size && (Nat.ble (o + ti.size) c.length && ones (vcells x)) then some (h.set i (.row (splice c o (vcells x)) esz false)) else none
    | _ => none
  | _, _ => none

theorem CellsAt.splice {N : Nat} {C C' : Array Value} {base o : Nat} {c l : List V} {xs : List Value} (hc : CellsAt N ρ C base c) (hl : VRs N ρ l xs) (hb : o + l.length ≤ c.length) (hC : base + c.length ≤ C.size)
    (e : C'.toList = C.toList.take (base + o) ++ xs ++ C.toList.drop (base + o + xs.length)) : CellsAt N ρ C' base (Vex.splice c o l) := by
  intro j v hj
  have hll := hl.length
  have hsz : C.toList.length = C.size := by simp
  unfold Vex.splice at hj
  rw [← Array.getElem?_toList, e]
  rw [List.append_assoc, List.getElem?_append, List.getElem?_take] at hj
  rw [List.append_assoc, List.getElem?_append, List.getElem?_take]
  simp only [List.length_take] at hj ⊢
  by_cases h1 : j < o
  · rw [if_pos (by omega), if_pos h1] at hj
    rw [if_pos (by omega), if_pos (by omega), Array.getElem?_toList]
    exact hc j v hj
  · rw [if_neg (by omega)] at hj
    rw [if_neg (by omega)]
    rw [List.getElem?_append] at hj ⊢
    have em : min o c.length = o := by omega
    have em' : min (base + o) C.toList.length = base + o := by omega
    rw [em] at hj
    rw [em', show base + j - (base + o) = j - o by omega]
    by_cases h2 : j - o < l.length
    · rw [if_pos h2] at hj
      rw [if_pos (by omega)]
      exact hl.get hj
    · rw [if_neg h2, List.getElem?_drop] at hj
      rw [if_neg (by omega), List.getElem?_drop, Array.getElem?_toList, show base + o + xs.length + (j - o - xs.length) = base + j by omega]
      have e3 : o + l.length + (j - o - l.length) = j := by omega
      rw [e3] at hj
      exact hc j v hj

theorem splice_ones {c l : List V} {o : Nat} (hc : ∀ v ∈ c, v.one = true) (hl : ∀ v ∈ l, v.one = true) : ∀ v ∈ splice c o l, v.one = true := by
  intro v hv
  simp only [splice, List.mem_append] at hv
  rcases hv with (hv | hv) | hv
  · exact hc v (List.mem_of_mem_take hv)
  · exact hl v hv
  · exact hc v (List.mem_of_mem_drop hv)

theorem xstore_sound (hT : TTok P T) (s : Sat B ρ h w) {t : TypeId} {a x : V} {au xu : Value} {h' : Hp} (ha : VR h.next ρ a au) (hx : VR h.next ρ x xu) (hr : xstore T h t a x = some h') :
    ∃ w', (Instr.storeAt t au xu).run P w = .ok () w' ∧ Sat B ρ h' w' ∧ h'.next = h.next ∧ Below B w w' := by
  unfold xstore at hr
  split at hr
  · rename_i ti i o ht
    obtain ⟨_, rfl⟩ := ha
    split at hr
    · rename_i c esz hg
      cases hb : (Nat.beq (vcells x).length ti.size && (Nat.ble (o + ti.size) c.length && ones (vcells x))) with
      | false => rw [hb] at hr; cases hr
      | true =>
        rw [hb] at hr; cases hr
        simp only [Bool.and_eq_true] at hb
        obtain ⟨hb1, hb2, hb3⟩ := hb
        have e1 := Nat.eq_of_beq_eq_true hb1
        have e2 := Nat.le_of_ble_eq_true hb2
        have e3 := ones_iff.1 hb3
        obtain ⟨hlt, hesz, C, el, fr, hC, hsz, hlim, hcells, hones, hro, hrw⟩ := s.obj i _ hg
        obtain ⟨hB, rfl⟩ := hrw rfl
        have hxc := hx.cells
        have hxl := hxc.length
        obtain ⟨w', C', hrun, hst, hC'⟩ := run_storeCells P (ρ i).blk ((ρ i).base + o) el (0, 0) xu.cells.toList 0 C w hC (by omega) (hxc.ones e3) (fun j _ hj => by simp)
        refine ⟨w', ?_, ?_, rfl, hst.below hB⟩
        · have e4 : xu.cells.size = ti.size := by rw [← e1, ← hxl]; simp
          simp only [Instr.storeAt, Instr.sureAddr, Sem.run_bind, Sem.run_pure, Result.andThen_ok, storeVar, hT.size ht, e4, ne_eq, not_true, if_false]
          exact hrun
        · refine s.write hg rfl (Nat.le_of_eq hst.hsize.symm) (fun k hk _ => hst.other k hk) ⟨hesz, C', el, (0, 0), hst.heap, by rw [hst.size]; exact hsz, ?_, ?_, splice_ones hones e3, fun e => (by cases e), fun _ => ⟨hB, rfl⟩⟩
          · rw [splice_length (by omega)]; exact hlim
          · exact hcells.splice hxc (by omega) (by omega) (by simpa using hC')
    · cases hr
  · cases hr

/-! ### a new row -/

theorem Below.alloc' (w : World) (o : Obj) (hB : B ≤ w.heap.size) : Below B w (w.alloc o) := (Below.refl B w).alloc hB o

theorem heap_push (w : World) (o : Obj) : (w.alloc o).heap[w.heap.size]? = some o := heap_alloc_new w o

/-- a new block of cells, of which the first hold the abstract ones -/
theorem Sat.newRow (s : Sat B ρ h w) (C : Array Value) (el : TypeId) (fr : Nat × Nat) (c : List V) (esz : Nat) (hl : c.length ≤ C.size) (hc : ∀ (j : Nat) v, c[j]? = some v → ∃ x, C[j]? = some x ∧ VR h.next ρ v x)
    (ho : ∀ v ∈ c, v.one = true) (hfr : fr = (0, 0)) :
    Sat B (Env.put ρ h.next ⟨w.heap.size, 0, C.size, esz⟩) (h.alloc (.row c esz false)) (w.alloc (.cells C el fr)) := by
  refine s.alloc ⟨w.heap.size, 0, C.size, esz⟩ (by simp) (fun k hk _ => Below.heap_alloc w _ k hk) (fun j p hj _ => ?_) s.base ?_
  · have := (s.obj j p hj).2.lt
    simp only
    omega
  · refine ⟨rfl, C, el, fr, heap_push w _, by simp, hl, ?_, ho, fun e => (by cases e), fun _ => ⟨s.base, hfr⟩⟩
    intro j v hj
    obtain ⟨x, hx, hv⟩ := hc j v hj
    exact ⟨x, by simpa using hx, hv.ext (Nat.le_succ _) (Env.ext_put _ _ _)⟩

def eszOf (T : TT) (t : TypeId) : Nat :=
  match T t with
  | some ti => match ti.d with
    | .arr _ e => match T e with
      | some ei => ei.size
      | none => 1
    | _ => 1
  | none => 1

/-- a new variable that holds v: its object -/
def xnew (T : TT) (h : Hp) (t : TypeId) (v : V) : Option (V × Hp) :=
  bif ones (vcells v) then some (.ptr (some (h.next, 0)), h.alloc (.row (vcells v) (eszOf T t) false)) else none

theorem xnew_sound (s : Sat B ρ h w) {t : TypeId} {v r : V} {x : Value} {h' : Hp} (hv : VR h.next ρ v x) (hr : xnew T h t v = some (r, h')) :
    ∃ z w' ρ', (newVar t x).run P w = .ok z w' ∧ Ext h.next ρ ρ' ∧ h.next ≤ h'.next ∧ Sat B ρ' h' w' ∧ VR h'.next ρ' r (.pointer (some z)) ∧ Below B w w' := by
  unfold xnew at hr
  cases hb : ones (vcells v) with
  | false => rw [hb] at hr; cases hr
  | true =>
    rw [hb] at hr; cases hr
    have hc := hv.cells
    refine ⟨⟨w.heap.size, 0, none⟩, w.alloc (.cells x.cells t), Env.put ρ h.next ⟨w.heap.size, 0, x.cells.size, eszOf T t⟩, ?_, Env.ext_put _ _ _, Nat.le_succ _, ?_, ?_, Below.alloc' w _ s.base⟩
    · simp [newVar, newRow, Sem.run_bind]
    · refine s.newRow x.cells t (0, 0) (vcells v) _ ?_ ?_ (ones_iff.1 hb) rfl
      · rw [← hc.length]; simp
      · intro j u hj
        obtain ⟨y, hy, hyv⟩ := hc.get hj
        exact ⟨y, by simpa using hy, hyv⟩
    · refine ⟨Nat.lt_succ_self _, ?_⟩
      rw [Env.put_same]

/-! ### a slice that is written out -/

def xbuildSlice (T : TT) (h : Hp) (t : TypeId) (len : Nat) (parts : List (Nat × V)) : Option (V × Hp) :=
  match T t with
  | some ti =>
    match ti.d with
    | .slc e =>
      match T e with
      | some ei =>
        match ei.zero with
        | some z =>
          bif Nat.ble (len * ei.size) 16777216 && Nat.beq (vcells z).length ei.size then
            match xfill (fun i => some (i * ei.size, ei.size)) ((List.range (len * ei.size)).map fun j => (vcells z).getD (j % ei.size) .nilFn) parts with
            | some c => bif ones c then some (.slc (some (h.next, 0)) len true, h.alloc (.row c ei.size false)) else none
            | none => none
          else none
        | none => none
      | none => none
    | _ => none
  | none => none

theorem xfill_length {pl : Nat → Option (Nat × Nat)} : ∀ {parts : List (Nat × V)} {c r : List V}, xfill pl c parts = some r → r.length = c.length
  | [], c, r, h => by simp [xfill] at h; rw [h]
  | (i, v) :: rest, c, r, h => by
    unfold xfill at h
    split at h
    · cases h
    · rename_i off size _
      cases hb : (Nat.beq (vcells v).length size && Nat.ble (off + size) c.length) with
      | false => rw [hb] at h; cases h
      | true =>
        rw [hb] at h
        simp only [Bool.and_eq_true] at hb
        have e1 := Nat.eq_of_beq_eq_true hb.1
        have e2 := Nat.le_of_ble_eq_true hb.2
        rw [xfill_length h, splice_length (by omega)]

theorem xbuildSlice_sound (hT : TTok P T) (s : Sat B ρ h w) {t : TypeId} {len : Nat} {parts : List (Nat × V)} {us : Array (Nat × Value)} {r : V} {h' : Hp} (hp : PartsR h.next ρ parts us.toList) (hr : xbuildSlice T h t len parts = some (r, h')) :
    ∃ z w' ρ', (Instr.buildSlice t len us).run P w = .ok z w' ∧ Ext h.next ρ ρ' ∧ h.next ≤ h'.next ∧ Sat B ρ' h' w' ∧ VR h'.next ρ' r z ∧ Below B w w' := by
  unfold xbuildSlice at hr
  split at hr
  · rename_i ti ht
    split at hr
    · rename_i e hd
      split at hr
      · rename_i ei hei
        split at hr
        · rename_i z hz
          cases hb : (Nat.ble (len * ei.size) 16777216 && Nat.beq (vcells z).length ei.size) with
          | false => rw [hb] at hr; cases hr
          | true =>
            rw [hb] at hr
            simp only [cond_true] at hr
            simp only [Bool.and_eq_true] at hb
            have hb1 := Nat.le_of_ble_eq_true hb.1
            have hb2 := Nat.eq_of_beq_eq_true hb.2
            split at hr
            · rename_i c hc
              cases ho : ones c with
              | false => rw [ho] at hr; cases hr
              | true =>
                rw [ho] at hr; cases hr
                obtain ⟨zx, hzr, hzv⟩ := hT.zeroV hei hz w
                have hzc := (V.of_sound h.next ρ zx z hzv).cells
                have hzl := hzc.length
                have hzs : zx.cells.size = ei.size := by rw [← hb2, ← hzl]; simp
                -- the cells that the literal begins with
                obtain ⟨Z, hZ, hZ', hZv⟩ : ∃ Z : Array Value, (len * ei.size = 0 → Z = #[]) ∧ (¬ len * ei.size = 0 → Z = zx.cells) ∧
                    VRs h.next ρ ((List.range (len * ei.size)).map fun j => (vcells z).getD (j % ei.size) .nilFn) ((Array.range (len * ei.size)).map (Z[· % Z.size]!)).toList := by
                  by_cases h0 : len * ei.size = 0
                  · refine ⟨#[], fun _ => rfl, fun h1 => absurd h0 h1, ?_⟩
                    rw [h0]; simp [VRs]
                  · refine ⟨zx.cells, fun h1 => absurd h1 h0, fun _ => rfl, VRs.of_get (by simp) (fun j v hj => ?_)⟩
                    have hse : 0 < ei.size := by
                      rcases Nat.eq_zero_or_pos ei.size with h1 | h1
                      · rw [h1] at h0; simp at h0
                      · exact h1
                    simp only [List.getElem?_map, Option.map_eq_some_iff] at hj
                    obtain ⟨k, hk, rfl⟩ := hj
                    have hkj : k = j ∧ j < len * ei.size := by
                      rw [List.getElem?_eq_some_iff] at hk
                      obtain ⟨hl, e⟩ := hk
                      simp at hl e
                      exact ⟨e.symm, hl⟩
                    obtain ⟨rfl, hkl⟩ := hkj
                    have hm : k % ei.size < ei.size := Nat.mod_lt _ hse
                    have hg : (vcells z)[k % ei.size]? = some ((vcells z).getD (k % ei.size) .nilFn) := by
                      rw [List.getD_eq_getElem?_getD, List.getElem?_eq_getElem (by omega)]; rfl
                    obtain ⟨x, hx, hv⟩ := hzc.get hg
                    refine ⟨x, ?_, hv⟩
                    have hx' : zx.cells[k % ei.size]? = some x := by simpa using hx
                    simp [hkl, hzs, getElem!_def, hx']
                obtain ⟨rs, hrs, hv⟩ := xfill_sound (ρ := ρ) (fun i => some (i * ei.size, ei.size)) parts us.toList _ _ c hp.1 hp.2 hZv hc
                have hcl := xfill_length hc
                simp only [List.length_map, List.length_range] at hcl
                have hrl := hv.length
                simp only [Array.length_toList] at hrl
                refine ⟨.slice (some ⟨w.heap.size, 0, none⟩) len len, w.alloc (.cells rs e), Env.put ρ h.next ⟨w.heap.size, 0, rs.size, ei.size⟩, ?_, Env.ext_put _ _ _, Nat.le_succ _, ?_, ?_, Below.alloc' w _ s.base⟩
                · simp only [Instr.buildSlice, Sem.run_bind, run_underlying (hT.slc ht hd), Result.andThen_ok, hT.size hei]
                  rw [if_neg (by omega)]
                  by_cases h0 : len * ei.size = 0
                  · rw [hZ h0] at hrs
                    rw [if_pos h0]
                    simp only [Sem.run_bind, Sem.run_pure, Result.andThen_ok, hrs, newRow, run_newObj_alloc]
                  · rw [hZ' h0] at hrs
                    rw [if_neg h0]
                    simp only [Sem.run_bind, Sem.run_pure, Result.andThen_ok, hzr, hrs, newRow, run_newObj_alloc]
                · refine s.newRow rs e (0, 0) c _ (by omega) ?_ (ones_iff.1 ho) rfl
                  intro j u hj
                  obtain ⟨y, hy, hyv⟩ := hv.get hj
                  exact ⟨y, by simpa using hy, hyv⟩
                · refine ⟨Nat.lt_succ_self _, ⟨w.heap.size, 0, none⟩, len, rfl, ?_, fun _ => rfl, Nat.le_refl _, fun _ => rfl, fun _ => ?_⟩
                  · rw [Env.put_same]
                  · rw [Env.put_same]
                    exact ⟨rfl, by simp only; omega⟩
            · cases hr
        · cases hr
      · cases hr
    · cases hr
  · cases hr

end
end Go.Vex
