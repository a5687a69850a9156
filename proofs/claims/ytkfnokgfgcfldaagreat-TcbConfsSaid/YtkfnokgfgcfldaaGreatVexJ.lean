/-
  VEX, part J: make of a slice, append, a string's bytes.
-/
import Derived.Test.YtkfnokgfgcfldaaGreatVexI
set_option linter.unusedSimpArgs false
set_option linter.unusedVariables false
namespace Go.Vex
open Go.RowKit (Below)

section
variable {P : Program} {T : TT} {B : Nat} {ρ : Env} {h : Hp} {w : World}

/-- n cells, over and over those of z -/
def rep (z : List V) (n : Nat) : List V := (List.range n).map fun j => z.getD (j % z.length) .nilFn

theorem rep_made {N : Nat} {z : List V} {Z : Array Value} (hz : VRs N ρ z Z.toList) (h0 : 0 < z.length) (n m : Nat) (hnm : n ≤ m) : ∀ (j : Nat) v, (rep z n)[j]? = some v → ∃ x, (madeCells Z m)[j]? = some x ∧ VR N ρ v x := by
  intro j v hj
  have hzl := hz.length
  simp only [Array.length_toList] at hzl
  simp only [rep, List.getElem?_map, Option.map_eq_some_iff] at hj
  obtain ⟨k, hk, rfl⟩ := hj
  have hkj : k = j ∧ j < n := by
    rw [List.getElem?_eq_some_iff] at hk
    obtain ⟨hl, e⟩ := hk
    simp at hl e
    exact ⟨e.symm, hl⟩
  obtain ⟨rfl, hkl⟩ := hkj
  have hm : k % z.length < z.length := Nat.mod_lt _ h0
  have hg : z[k % z.length]? = some (z.getD (k % z.length) .nilFn) := by
    rw [List.getD_eq_getElem?_getD, List.getElem?_eq_getElem hm]; rfl
  obtain ⟨x, hx, hv⟩ := hz.get hg
  refine ⟨x, ?_, hv⟩
  have hx' : Z[k % z.length]? = some x := by simpa using hx
  simp [madeCells, show k < m by omega, hzl, getElem!_def, hx']

theorem rep_ones {z : List V} (h : ∀ v ∈ z, v.one = true) (n : Nat) : ∀ v ∈ rep z n, v.one = true := by
  intro v hv
  simp only [rep, List.mem_map] at hv
  obtain ⟨j, _, rfl⟩ := hv
  rw [List.getD_eq_getElem?_getD]
  cases hg : z[j % z.length]? with
  | none => rfl
  | some u => exact h u (List.mem_of_getElem? hg)

def xmake (T : TT) (h : Hp) (t : TypeId) (l c : V) : Option (V × Hp) :=
  match T t, l, c with
  | some ti, .int _ l, .int _ c =>
    match ti.d with
    | .slc e =>
      match T e with
      | some ei =>
        match ei.zero with
        | some z =>
          if 0 ≤ l ∧ l ≤ c ∧ c ≤ 140737488355328 ∧ (ei.bytes : Int) * c ≤ 281474976710656 ∧ (vcells z).length = ei.size ∧ 0 < ei.size then
            bif ones (vcells z) then some (.slc (some (h.next, 0)) l.toNat (decide (l = c)), h.alloc (.row (rep (vcells z) (l.toNat * ei.size)) ei.size false)) else none
          else none
        | none => none
      | none => none
    | _ => none
  | _, _, _ => none

theorem xmake_sound (hT : TTok P T) (s : Sat B ρ h w) {t : TypeId} {l c r : V} {lu cu : Value} {h' : Hp} (hl : VR h.next ρ l lu) (hc : VR h.next ρ c cu) (hr : xmake T h t l c = some (r, h')) :
    ∃ z w' ρ', (Instr.makeSlice t lu cu).run P w = .ok z w' ∧ Ext h.next ρ ρ' ∧ h.next ≤ h'.next ∧ Sat B ρ' h' w' ∧ VR h'.next ρ' r z ∧ Below B w w' := by
  unfold xmake at hr
  split at hr
  · rename_i ti k1 l k2 c ht
    rw [show lu = _ from hl, show cu = _ from hc]
    split at hr
    · rename_i e hd
      split at hr
      · rename_i ei hei
        split at hr
        · rename_i z hz
          split at hr
          · rename_i hb
            obtain ⟨b1, b2, b3, b4, b5, b6⟩ := hb
            cases ho : ones (vcells z) with
            | false => rw [ho] at hr; cases hr
            | true =>
              rw [ho] at hr; cases hr
              obtain ⟨i, d, hi, _, _, hsz, hby, hzero, _⟩ := hT.ok e ei hei
              obtain ⟨zx, hzx, hzv⟩ := hzero z hz
              have hzc := (V.of_sound h.next ρ zx z hzv).cells
              have hrun := run_make (P := P) w t e i zx (hT.slc ht hd) hi hzx k1 k2 l c b1 b2 (by rw [hby]; exact b4) (by omega)
              rw [hsz] at hrun
              have hle : l.toNat * ei.size ≤ c.toNat * ei.size := Nat.mul_le_mul_right _ (by omega)
              refine ⟨_, _, Env.put ρ h.next ⟨w.heap.size, 0, (madeCells zx.cells (c.toNat * ei.size)).size, ei.size⟩, hrun, Env.ext_put _ _ _, Nat.le_succ _, ?_, ?_, Below.alloc' w _ s.base⟩
              · refine s.newRow _ e (0, 0) _ _ (by simp [rep, size_madeCells]; exact hle) (rep_made hzc (by omega) _ _ hle) (rep_ones (ones_iff.1 ho) _) rfl
              · refine ⟨Nat.lt_succ_self _, ⟨w.heap.size, 0, none⟩, c.toNat, rfl, ?_, fun _ => rfl, by omega, fun hf => ?_, fun _ => ?_⟩
                · rw [Env.put_same]
                · have := of_decide_eq_true hf; omega
                · rw [Env.put_same]
                  exact ⟨rfl, by simp only [size_madeCells]; omega⟩
          · cases hr
        · cases hr
      · cases hr
    · cases hr
  · cases hr

/-! ### append -/

def byteV (s : List UInt8) : List V := s.map fun b => .int .u8 b.toNat

/-- what is appended: how many elements, their cells -/
def xnews (h : Hp) (size : Nat) (x : V) : Option (Nat × List V) :=
  match x with
  | .slc none _ _ => some (0, [])
  | .slc (some (i, o)) n _ =>
    bif Nat.beq n 0 then some (0, []) else
    match h.get i with
    | some (.row c esz _) => bif Nat.beq esz size then (cut c o (n * size)).map fun l => (n, l) else none
    | _ => none
  | .str s => bif Nat.beq size 1 then some (s.length, byteV s) else none
  | _ => none

theorem byteV_sound {N : Nat} (s : List UInt8) : VRs N ρ (byteV s) (s.map fun b => Value.int .u8 b.toNat) := by
  induction s with
  | nil => rfl
  | cons b s ih => exact ⟨_, _, rfl, rfl, ih⟩

theorem byteV_ones (s : List UInt8) : ∀ v ∈ byteV s, v.one = true := by
  intro v hv
  simp only [byteV, List.mem_map] at hv
  obtain ⟨b, _, rfl⟩ := hv
  rfl

theorem xnews_sound (s : Sat B ρ h w) {size : Nat} {x : V} {u : Value} {n : Nat} {l : List V} (hx : VR h.next ρ x u) (hr : xnews h size x = some (n, l)) :
    ∃ us : List Value, VRs h.next ρ l us ∧ us.length = n * size ∧ (∀ v ∈ l, v.one = true) ∧ (∀ w', (Builtin.lenOf u).run P w' = .ok n w') ∧ (∀ w', w'.heap = w.heap → (Builtin.firstCells size n u).run P w' = .ok us.toArray w') := by
  unfold xnews at hr
  split at hr
  · cases hr
    obtain ⟨rfl, rfl⟩ := hx
    exact ⟨[], rfl, by simp, fun v hv => (by cases hv), fun w' => (by simp [Builtin.lenOf]), fun w' _ => (by simp [Builtin.firstCells])⟩
  · rename_i i o m _
    obtain ⟨_, a, cap, rfl, hb, hsp, hn, _, hoff⟩ := hx
    cases hm0 : Nat.beq m 0 with
    | true =>
      rw [hm0] at hr
      cases hr
      have hm := Nat.eq_of_beq_eq_true hm0
      subst hm
      exact ⟨[], rfl, by simp, fun v hv => (by cases hv), fun w' => (by simp [Builtin.lenOf]), fun w' _ => run_firstCells_some (P := P) w' size 0 a 0 cap [] (by simp) (fun j v hj => by simp at hj)⟩
    | false =>
    rw [hm0] at hr
    simp only [cond_false] at hr
    split at hr
    · rename_i c esz ro hg
      cases hes : Nat.beq esz size with
      | false => rw [hes] at hr; cases hr
      | true =>
        rw [hes] at hr
        simp only [cond_true] at hr
        obtain ⟨l', hl', e⟩ := Option.map_eq_some_iff.1 hr
        cases e
        obtain ⟨xs, h1, h2, h3⟩ := s.cells hg hl' (a := a) (fun h0 => by
          obtain ⟨ab, ao, asp⟩ := a
          simp only at hb hsp hoff
          have : 0 < n := by
            rcases Nat.eq_zero_or_pos n with e | e
            · subst e; simp at h0
            · exact e
          rw [hb, hsp (by omega), (hoff (by omega)).1])
        obtain ⟨_, _, C, el, fr, _, _, _, _, hones, _⟩ := s.obj i _ hg
        obtain ⟨_, hl2, _⟩ := cut_some hl'
        refine ⟨xs, h2, h1, fun v hv => ?_, fun w' => (by simp [Builtin.lenOf]), fun w' hw' => ?_⟩
        · rw [hl2] at hv
          exact hones v (List.mem_of_mem_drop (List.mem_of_mem_take hv))
        · exact run_firstCells_some (P := P) w' size n a n cap xs h1 (fun j v hj => by
            have := h3 j v hj
            simp only [World.cell?, hw'] at this ⊢
            exact this)
    · cases hr
  · rename_i str
    cases hes : Nat.beq size 1 with
    | false => rw [hes] at hr; cases hr
    | true =>
      rw [hes] at hr; cases hr
      have hs1 := Nat.eq_of_beq_eq_true hes
      subst hs1
      rw [show u = _ from hx]
      have hsz : (ByteArray.mk str.toArray).size = str.length := by simp [ByteArray.size]
      refine ⟨str.map fun b => Value.int .u8 b.toNat, byteV_sound str, by simp, byteV_ones str, fun w' => by simp only [Builtin.lenOf, hsz, Sem.run_pure], fun w' _ => ?_⟩
      simp only [Builtin.firstCells, Sem.run_pure]
      congr 1
      rw [ByteArray.extract_mk]
      apply Array.ext'
      simp
  · cases hr

/-- is the zero value as long as its type says? -/
def zok (ei : TI) : Bool := match ei.zero with | some z => Nat.beq (vcells z).length ei.size | none => false

def xapp (T : TT) (h : Hp) (t u : TypeId) (s x : V) : Option (V × Hp) :=
  match T t, T u with
  | some ti, some ui =>
    match ti.d, ui.d with
    | .slc _, .int _ => none
    | .slc e, _ =>
      match T e with
      | some ei =>
        match xnews h ei.size x, s with
        | some (n, l), .slc a len full =>
          bif Nat.beq n 0 then some (.slc a len full, h)
          else bif Nat.ble ((len + n) * ei.bytes) 140737488355328 && (Nat.ble (len + n) 4611686018427387904 && (Nat.ble 1 ei.size && zok ei)) then
            match a with
            | none => some (.slc (some (h.next, 0)) n false, h.alloc (.row l ei.size false))
            | some (i, o) =>
              match h.get i with
              | some (.row c esz ro) =>
                match cut c o (len * ei.size) with
                | some olds =>
                  bif Nat.beq esz ei.size then
                    bif full then some (.slc (some (h.next, 0)) (len + n) false, h.alloc (.row (olds ++ l) ei.size false))
                    else bif !ro then some (.slc (some (h.next, 0)) (len + n) false, (h.kill i).alloc (.row (olds ++ l) ei.size false))
                    else none
                  else none
                | none => none
              | _ => none
          else none
        | _, _ => none
      | none => none
    | _, _ => none
  | _, _ => none

/-- append at its beginning: what both arms have in common -/
theorem run_append_pre (w : World) (t u ty e : TypeId) (i : TypeInfo) {ud : TypeDesc} (ht : P.underlying t = some (.slice e)) (hu : P.underlying u = some ud) (hni : ∀ k, ud ≠ .int k) (hi : P.info? e = some i)
    (base : Option Addr) (sLen sCap : Nat) (x : Value) (n : Nat) (hn : ∀ w', (Builtin.lenOf x).run P w' = .ok n w') (news : Array Value) (hnews : ∀ w', w'.heap = w.heap → (Builtin.firstCells i.size n x).run P w' = .ok news w') :
    (sLen + n ≤ sCap → (Builtin.append_ #[t, u] ty #[.slice base sLen sCap, x]).run P w =
      ((match base with | some a => storeCells (a.add (sLen * i.size)) news.toList | none => pure () : Sem Unit).run P w).andThen fun _ w' => .ok (.slice base (sLen + n) sCap) w') ∧
    (¬ sLen + n ≤ sCap → ∀ (z : Value), i.zero = some z → Builtin.nextslicecap (sLen + n) sCap * i.bytes ≤ 281474976710656 → (((sLen + n : Nat) : Int) ≤ 9223372036854775807) → ∀ (olds : Array Value),
      (∀ w', w'.heap = w.heap → (Builtin.firstCells i.size sLen (.slice base sLen sCap)).run P w' = .ok olds w') →
      (Builtin.append_ #[t, u] ty #[.slice base sLen sCap, x]).run P w =
        .ok (.slice (some ⟨w.heap.size, 0, none⟩) (sLen + n) (grownCap w (sLen + n) sCap e)) (w.drew.alloc (.cells (olds ++ news ++ Builtin.zeroCells z.cells (grownCap w (sLen + n) sCap e - (sLen + n))) e))) := by
  have hm : (ud matches .int _) = false := by cases ud <;> first | rfl | exact absurd rfl (hni _)
  refine ⟨fun hle => ?_, fun hgt z hz hfit h63 olds holds => ?_⟩
  · simp only [Builtin.append_, List.getElem?_toArray, List.getElem?_cons_zero, List.getElem?_cons_succ, Sem.run_bind, run_underlying ht, Result.andThen_ok, Go.sizeOf, typeInfo, run_program, hi, Sem.run_pure, run_underlying hu, hm, Bool.false_eq_true, if_false, hn,
      if_pos hle, Bool.not_false, if_true, hnews w rfl]
    cases base with
    | none => simp
    | some a => simp
  · have h63' : ¬ (((sLen + n : Nat) : Int) > IntKind.i64.max ∧ (false = true ∨ i.bytes = 0)) := by rw [IntKind.max_i64]; omega
    have h48 : ¬ (Builtin.nextslicecap (sLen + n) sCap * i.bytes > 2 ^ 48) := by
      have : (2 : Nat) ^ 48 = 281474976710656 := by decide
      omega
    simp only [Builtin.append_, List.getElem?_toArray, List.getElem?_cons_zero, List.getElem?_cons_succ, Sem.run_bind, run_underlying ht, Result.andThen_ok, Go.sizeOf, typeInfo, run_program, hi, Sem.run_pure, run_underlying hu, hm, Bool.false_eq_true, if_false, hn,
      if_neg hgt, Bool.not_false, if_true]
    rw [if_neg (by simpa using h63')]
    simp only [Sem.run_bind, run_program, Result.andThen_ok, hi, Sem.run_pure]
    rw [if_neg h48]
    simp only [Sem.run_bind, Sem.run_pure, Result.andThen_ok, run_choose_drew, Question.forced, Bool.false_eq_true, if_false, run_askRoom, holds w.drew rfl, hnews w.drew rfl, zeroValue, typeInfo, run_program, hi, hz, newRow, run_newObj_alloc, World.size_drew]
    rfl

end
end Go.Vex
