/-
  VEX, part L: all operations that write or make memory as one function, 'xe', and its law.
-/
import Derived.Test.YtkfnokgfgcfldaaGreatVexK
import Derived.Lib.ConvBytes
set_option linter.unusedSimpArgs false
set_option linter.unusedVariables false
namespace Go.Vex
open Go.RowKit (Below)

/-- bytes out of a string: left out here (their row bears a mark: such rows can't be told apart by their places) -/
def xbytes (_ : TT) (_ : Hp) (_ _ : TypeId) (_ : V) : Option (V × Hp) := none

section
variable {P : Program} {T : TT} {B : Nat} {ρ : Env} {h : Hp} {w : World}

/-! ### clear -/

def xclear (T : TT) (h : Hp) (t : TypeId) (x : V) : Option Hp :=
  match T t with
  | none => none
  | some ti =>
  match x with
  | .map none => some h
  | .map (some i) => match h.get i with
    | some (.map _ clk) => some (h.set i (.map [] clk))
    | _ => none
  | .slc none _ _ => some h
  | .slc (some (i, o)) n _ =>
    bif Nat.beq n 0 then some h else
    match ti.d with
    | .slc e => match T e with
      | some ei => match ei.zero with
        | some z => match h.get i with
          | some (.row c esz false) =>
            bif Nat.ble (o + n * (vcells z).length) c.length && ones (vcells z) && Nat.blt 0 (vcells z).length then some (h.set i (.row (splice c o (rep (vcells z) (n * (vcells z).length))) esz false)) else none
          | _ => none
        | none => none
      | none => none
    | _ => none
  | _ => none

theorem rep_length (z : List V) (n : Nat) : (rep z n).length = n := by simp [rep]

theorem rep_rel {N : Nat} {z : List V} {Z : Array Value} (hz : VRs N ρ z Z.toList) (h0 : 0 < z.length) (n : Nat) : VRs N ρ (rep z (n * z.length)) (Builtin.zeroCells Z n).toList := by
  have hzl := hz.length
  simp only [Array.length_toList] at hzl
  refine VRs.of_get (by simp [rep, Builtin.zeroCells, hzl]) fun j v hj => ?_
  simp only [rep, List.getElem?_map, Option.map_eq_some_iff] at hj
  obtain ⟨k, hk, rfl⟩ := hj
  obtain ⟨hkn, rfl⟩ : k < n * z.length ∧ k = j := by
    have h1 := List.getElem?_eq_some_iff.1 hk
    obtain ⟨h1, h2⟩ := h1
    simp only [List.length_range] at h1
    simp only [List.getElem_range] at h2
    omega
  have hm : k % z.length < z.length := Nat.mod_lt _ h0
  obtain ⟨x, hx, hv⟩ := hz.get (List.getElem?_eq_getElem hm)
  refine ⟨x, ?_, ?_⟩
  · simp only [Array.getElem?_toList] at hx ⊢
    simp only [Builtin.zeroCells, Array.getElem?_map, hzl]
    rw [Array.getElem?_range, if_pos (by rw [hzl] at *; exact hkn)]
    simp only [Option.map_some, Option.some.injEq]
    rw [Array.getElem!_eq_getD, Array.getD_eq_getD_getElem?, hx]
    rfl
  · rw [List.getD_eq_getElem?_getD, List.getElem?_eq_getElem hm]
    exact hv

theorem xclear_sound (hT : TTok P T) (s : Sat B ρ h w) {t ty : TypeId} {x : V} {xu : Value} {h' : Hp} (hx : VR h.next ρ x xu) (hr : xclear T h t x = some h') :
    ∃ w', (Builtin.clear_ #[t] ty #[xu]).run P w = .ok (.tuple #[]) w' ∧ Sat B ρ h' w' ∧ h'.next = h.next ∧ Below B w w' := by
  unfold xclear at hr
  split at hr
  · cases hr
  · rename_i ti ht
    obtain ⟨d, hd⟩ := hT.und ht
    split at hr
    · cases hr
      rw [show xu = _ from hx]
      exact ⟨w, by simp [Builtin.clear_, Sem.run_bind, run_underlying hd], s, rfl, Below.refl _ _⟩
    · rename_i i
      obtain ⟨_, rfl⟩ := hx
      split at hr
      · rename_i es clk hg
        cases hr
        obtain ⟨_, hb, ms, hm, hes⟩ := s.obj i _ hg
        have hlt := (Array.getElem?_eq_some_iff.1 hm).1
        have hput : Sat B ρ (h.set i (.map [] clk)) { w with heap := w.heap.setIfInBounds (ρ i).blk (.map #[] clk) } := by
          refine s.write hg rfl (by simp) (fun k hk _ => by simp [Array.getElem?_setIfInBounds_ne (Ne.symm hk)]) ⟨hb, #[], ?_, rfl⟩
          simp [hlt]
        refine ⟨_, ?_, hput, rfl, ⟨rfl, rfl, rfl, by simp, fun k hk => ?_⟩⟩
        · simp [Builtin.clear_, Sem.run_bind, run_underlying hd, getObj, setObj, Sem.run, hm, Result.andThen]
        · simp only
          rw [Array.getElem?_setIfInBounds_ne (by omega)]
      · cases hr
    · cases hr
      obtain ⟨rfl, rfl⟩ := hx
      exact ⟨w, by simp [Builtin.clear_, Sem.run_bind, run_underlying hd], s, rfl, Below.refl _ _⟩
    · rename_i i o n f
      obtain ⟨_, a, cap, rfl, ha, hsp, hn, hf, hoff⟩ := hx
      cases hz : Nat.beq n 0 with
      | true =>
        rw [hz] at hr; cases hr
        have := Nat.eq_of_beq_eq_true hz
        subst this
        exact ⟨w, by simp [Builtin.clear_, Sem.run_bind, run_underlying hd], s, rfl, Below.refl _ _⟩
      | false =>
        rw [hz] at hr
        simp only [cond_false] at hr
        have hn0 : n ≠ 0 := fun e => by rw [e] at hz; cases hz
        split at hr
        · rename_i e hd'
          split at hr
          · rename_i ei he
            split at hr
            · rename_i z hzero
              split at hr
              · rename_i c esz hg
                cases hb : (Nat.ble (o + n * (vcells z).length) c.length && ones (vcells z) && Nat.blt 0 (vcells z).length) with
                | false => rw [hb] at hr; cases hr
                | true =>
                  rw [hb] at hr; cases hr
                  simp only [Bool.and_eq_true] at hb
                  obtain ⟨⟨hb1, hb2⟩, hb3⟩ := hb
                  have e2 := Nat.le_of_ble_eq_true hb1
                  have e3 := ones_iff.1 hb2
                  rw [blt_eq, decide_eq_true_eq] at hb3
                  obtain ⟨hlt, hesz, C, el, fr, hC, hsz, hlim, hcells, hones, hro, hrw⟩ := s.obj i _ hg
                  obtain ⟨hB, rfl⟩ := hrw rfl
                  obtain ⟨zx, hzr, hzv⟩ := hT.zeroV he hzero w
                  have hzx := (V.of_sound h.next ρ zx z hzv).cells
                  have hrel := rep_rel hzx hb3 n
                  have hrl := hrel.length
                  rw [rep_length] at hrl
                  obtain ⟨hoff1, hoff2⟩ := hoff (by omega)
                  have hrones := rep_ones e3 (n * (vcells z).length)
                  obtain ⟨w', C', hrun, hst, hC'⟩ := run_storeCells P (ρ i).blk ((ρ i).base + o) el (0, 0) (Builtin.zeroCells zx.cells n).toList 0 C w hC (by omega) (hrel.ones hrones) (fun j _ hj => by simp)
                  have hsp' := hsp (by omega)
                  clear hsp
                  obtain ⟨ab, ao, asp⟩ := a
                  simp only at ha hsp' hoff1
                  subst ha; subst hsp'; subst hoff1
                  refine ⟨w', ?_, ?_, rfl, hst.below hB⟩
                  · have hu := hT.slc ht hd'
                    rw [hd] at hu
                    cases hu
                    cases n with
                    | zero => exact absurd rfl hn0
                    | succ m =>
                      simp [Builtin.clear_, Sem.run_bind, run_underlying hd, hzr, hrun]
                  · refine s.write hg rfl (Nat.le_of_eq hst.hsize.symm) (fun k hk _ => hst.other k hk) ⟨hesz, C', el, (0, 0), hst.heap, by rw [hst.size]; exact hsz, ?_, ?_, splice_ones hones hrones, fun e => (by cases e), fun _ => ⟨hB, rfl⟩⟩
                    · rw [splice_length (by rw [rep_length]; omega)]; exact hlim
                    · exact hcells.splice hrel (by rw [rep_length]; omega) (by omega) (by simpa using hC')
              · cases hr
            · cases hr
          · cases hr
        · cases hr
    · cases hr

end


def xe (T : TT) (h : Hp) (ev : Operand → Option V) : Op → Option (List (V × Hp))
  | .store t a x => match ev a, ev x with
    | some p, some v => (xstore T h t p v).map fun h' => [(.tup [], h')]
    | _, _ => none
  | .alloc t => match T t with
    | some ti => match ti.zero with
      | some z => (xnew T h t z).map fun r => [r]
      | none => none
    | none => none
  | .box t x => match ev x with
    | some v => (xnew T h t v).map fun r => [r]
    | none => none
  | .buildSlice t n ps => match evp ev ps.toList with
    | some l => (xbuildSlice T h t n l).map fun r => [r]
    | none => none
  | .makeMap t r => match evo ev r with
    | some v => (xmakeMap T h t v).map fun r => [r]
    | none => none
  | .makeSlice t l c => match ev l, ev c with
    | some a, some b => (xmake T h t a b).map fun r => [r]
    | _, _ => none
  | .mapUpdate t m k x | .insert t m k x => match ev m, ev k, ev x with
    | some a, some b, some c => (xput T h t a b c).map fun h' => [(.tup [], h')]
    | _, _, _ => none
  | .mapEntry t m k => match ev m, ev k with
    | some a, some b => (xmapEntry T h t a b).map fun r => [r]
    | _, _ => none
  | .entryStore _ m s x => match ev m, ev s, ev x with
    | some a, some b, some c => (xentryStore h a b c).map fun h' => [(.tup [], h')]
    | _, _, _ => none
  | .range t x => match ev x with
    | some v => (xrange T h t v).map fun r => [r]
    | none => none
  | .next it isS => match ev it with
    | some v => bif isS then none else xnext h v
    | none => none
  | .entry it => match ev it with
    | some v => (xentry h v).map fun r => [(r, h)]
    | none => none
  | .convert src dst x => match ev x with
    | some v => (xbytes T h src dst v).map fun r => [r]
    | none => none
  | .call { callee := .builtin .append, args, argTypes } => match args.toList, argTypes.toList with
    | [s, x], [t, u] => match ev s, ev x with
      | some a, some b => (xapp T h t u a b).map fun r => [r]
      | _, _ => none
    | _, _ => none
  | .call { callee := .builtin .clear, args, argTypes } => match args.toList, argTypes.toList with
    | [x], [t] => match ev x with
      | some a => (xclear T h t a).map fun h' => [(.tup [], h')]
      | none => none
    | _, _ => none
  | .call { callee := .builtin .delete, args, argTypes } => match args.toList, argTypes.toList with
    | [m, k], [t, _] => match ev m, ev k with
      | some a, some b => (xdel T h t a b).map fun h' => [(.tup [], h')]
      | _, _ => none
    | _, _ => none
  | _ => none

section
variable {P : Program} {T : TT} {B : Nat} {ρ : Env} {h : Hp} {w : World} {ev : Operand → Option V} {rv : Operand → Value}

theorem xbytes_sound (hT : TTok P T) (s : Sat B ρ h w) {src dst : TypeId} {x r : V} {xu : Value} {h' : Hp} (hx : VR h.next ρ x xu) (hr : xbytes T h src dst x = some (r, h')) :
    ∃ z w' ρ', (convert src dst xu).run P w = .ok z w' ∧ Ext h.next ρ ρ' ∧ h.next ≤ h'.next ∧ Sat B ρ' h' w' ∧ VR h'.next ρ' r z ∧ Below B w w' := by
  cases hr

/-- what an operation does that writes or makes memory -/
structure XE (P : Program) (B : Nat) (ρ : Env) (h : Hp) (w : World) (x : Sem Next) (l : List (V × Hp)) (nx : Next) (z : Value) (w' : World) (r : V) (h' : Hp) (ρ' : Env) : Prop where
  run : x.run P w = .ok nx w'
  res : nx = .value z ∨ (nx = .skip ∧ z = undef)
  mem : (r, h') ∈ l
  ext : Ext h.next ρ ρ'
  le : h.next ≤ h'.next
  sat : Sat B ρ' h' w'
  val : VR h'.next ρ' r z
  below : Below B w w'

theorem vr_unit (N : Nat) (ρ : Env) : VR N ρ (.tup []) undef := ⟨#[], rfl, rfl⟩

/-- THE LAW OF THE OPERATIONS THAT WRITE OR MAKE MEMORY. -/
theorem xe_sound (hT : TTok P T) (s : Sat B ρ h w) (he : EvR h.next ρ ev rv) (o : Oper) {l : List (V × Hp)} (hr : xe T h ev o.op = some l) :
    ∃ nx z w' r h' ρ', XE P B ρ h w (execOp rv o) l nx z w' r h' ρ' := by
  obtain ⟨dst, op, ty, pos, after, guard⟩ := o
  simp only at hr
  unfold xe at hr
  split at hr
  · -- store
    split at hr
    · rename_i p v hp hv
      obtain ⟨h', h1, rfl⟩ := Option.map_eq_some_iff.1 hr
      obtain ⟨w', g1, g2, g3, g4⟩ := xstore_sound hT s (he _ _ hp) (he _ _ hv) h1
      exact ⟨.skip, undef, w', _, h', ρ, ⟨by simp [execOp, g1], .inr ⟨rfl, rfl⟩, List.mem_singleton.2 rfl, Ext.refl _ _, Nat.le_of_eq g3.symm, g2, vr_unit _ _, g4⟩⟩
    · cases hr
  · -- alloc
    rename_i t
    split at hr
    · rename_i ti ht
      split at hr
      · rename_i z hz
        obtain ⟨⟨r, h'⟩, h1, rfl⟩ := Option.map_eq_some_iff.1 hr
        obtain ⟨zx, hzr, hzv⟩ := hT.zeroV ht hz w
        obtain ⟨a, w', ρ', g1, g2, g3, g4, g5, g6⟩ := xnew_sound (P := P) (t := t) s (V.of_sound h.next ρ zx z hzv) h1
        exact ⟨_, .pointer (some a), w', r, h', ρ', ⟨by simp [execOp, Instr.alloc, Sem.run_bind, hzr, g1], .inl rfl, List.mem_singleton.2 rfl, g2, g3, g4, g5, g6⟩⟩
      · cases hr
    · cases hr
  · -- box
    rename_i t x
    split at hr
    · rename_i v hv
      obtain ⟨⟨r, h'⟩, h1, rfl⟩ := Option.map_eq_some_iff.1 hr
      obtain ⟨a, w', ρ', g1, g2, g3, g4, g5, g6⟩ := xnew_sound (P := P) (t := t) s (he _ _ hv) h1
      exact ⟨_, .pointer (some a), w', r, h', ρ', ⟨by simp [execOp, Instr.box, Sem.run_bind, g1], .inl rfl, List.mem_singleton.2 rfl, g2, g3, g4, g5, g6⟩⟩
    · cases hr
  · -- buildSlice
    rename_i t n ps
    split at hr
    · rename_i pl hl
      obtain ⟨⟨r, h'⟩, h1, rfl⟩ := Option.map_eq_some_iff.1 hr
      have hp := evp_sound he hl
      obtain ⟨z, w', ρ', g1, g2, g3, g4, g5, g6⟩ := xbuildSlice_sound hT s (us := ps.map fun (i, x) => (i, rv x)) (by simpa using hp) h1
      exact ⟨_, z, w', r, h', ρ', ⟨by simp [execOp, g1], .inl rfl, List.mem_singleton.2 rfl, g2, g3, g4, g5, g6⟩⟩
    · cases hr
  · -- makeMap
    split at hr
    · rename_i v hv
      obtain ⟨⟨r, h'⟩, h1, rfl⟩ := Option.map_eq_some_iff.1 hr
      obtain ⟨z, w', ρ', g1, g2, g3, g4, g5, g6⟩ := xmakeMap_sound hT s (evo_sound he hv) h1
      exact ⟨_, z, w', r, h', ρ', ⟨by simp [execOp, g1], .inl rfl, List.mem_singleton.2 rfl, g2, g3, g4, g5, g6⟩⟩
    · cases hr
  · -- makeSlice
    split at hr
    · rename_i a b ha hb
      obtain ⟨⟨r, h'⟩, h1, rfl⟩ := Option.map_eq_some_iff.1 hr
      obtain ⟨z, w', ρ', g1, g2, g3, g4, g5, g6⟩ := xmake_sound hT s (he _ _ ha) (he _ _ hb) h1
      exact ⟨_, z, w', r, h', ρ', ⟨by simp [execOp, g1], .inl rfl, List.mem_singleton.2 rfl, g2, g3, g4, g5, g6⟩⟩
    · cases hr
  · -- mapUpdate
    split at hr
    · rename_i a b c ha hb hc
      obtain ⟨h', h1, rfl⟩ := Option.map_eq_some_iff.1 hr
      obtain ⟨w', g1, g2, g3, g4⟩ := xput_sound hT s (he _ _ ha) (he _ _ hb) (he _ _ hc) h1
      exact ⟨.skip, undef, w', _, h', ρ, ⟨by simp [execOp, g1], .inr ⟨rfl, rfl⟩, List.mem_singleton.2 rfl, Ext.refl _ _, Nat.le_of_eq g3.symm, g2, vr_unit _ _, g4⟩⟩
    · cases hr
  · -- insert
    split at hr
    · rename_i a b c ha hb hc
      obtain ⟨h', h1, rfl⟩ := Option.map_eq_some_iff.1 hr
      obtain ⟨w', g1, g2, g3, g4⟩ := xput_sound hT s (he _ _ ha) (he _ _ hb) (he _ _ hc) h1
      exact ⟨.skip, undef, w', _, h', ρ, ⟨by simp [execOp, g1], .inr ⟨rfl, rfl⟩, List.mem_singleton.2 rfl, Ext.refl _ _, Nat.le_of_eq g3.symm, g2, vr_unit _ _, g4⟩⟩
    · cases hr
  · -- mapEntry
    split at hr
    · rename_i a b ha hb
      obtain ⟨⟨r, h'⟩, h1, rfl⟩ := Option.map_eq_some_iff.1 hr
      obtain ⟨z, w', g1, g2, g3, g4, g5⟩ := xmapEntry_sound hT s (he _ _ ha) (he _ _ hb) h1
      exact ⟨_, z, w', r, h', ρ, ⟨by simp [execOp, g1], .inl rfl, List.mem_singleton.2 rfl, Ext.refl _ _, Nat.le_of_eq g4.symm, g3, by rw [g4]; exact g2, g5⟩⟩
    · cases hr
  · -- entryStore
    rename_i t m sv x
    split at hr
    · rename_i a b c ha hb hc
      obtain ⟨h', h1, rfl⟩ := Option.map_eq_some_iff.1 hr
      obtain ⟨w', g1, g2, g3, g4⟩ := xentryStore_sound (P := P) (t := t) s (he _ _ ha) (he _ _ hb) (he _ _ hc) h1
      exact ⟨.skip, undef, w', _, h', ρ, ⟨by simp [execOp, g1], .inr ⟨rfl, rfl⟩, List.mem_singleton.2 rfl, Ext.refl _ _, Nat.le_of_eq g3.symm, g2, vr_unit _ _, g4⟩⟩
    · cases hr
  · -- range
    split at hr
    · rename_i a ha
      obtain ⟨⟨r, h'⟩, h1, rfl⟩ := Option.map_eq_some_iff.1 hr
      obtain ⟨z, w', ρ', g1, g2, g3, g4, g5, g6⟩ := xrange_sound hT s (he _ _ ha) h1
      exact ⟨_, z, w', r, h', ρ', ⟨by simp [execOp, g1], .inl rfl, List.mem_singleton.2 rfl, g2, g3, g4, g5, g6⟩⟩
    · cases hr
  · -- next
    rename_i it isS
    split at hr
    · rename_i a ha
      cases isS with
      | true => cases hr
      | false =>
        obtain ⟨z, w', r, h', g1, g2, g3, g4, g5, g6⟩ := xnext_sound (P := P) (ty := ty) s (he _ _ ha) hr
        exact ⟨_, z, w', r, h', ρ, ⟨by simp [execOp, g1], .inl rfl, g2, Ext.refl _ _, Nat.le_of_eq g3.symm, g4, by rw [g3]; exact g5, g6⟩⟩
    · cases hr
  · -- entry
    split at hr
    · rename_i a ha
      obtain ⟨r, h1, rfl⟩ := Option.map_eq_some_iff.1 hr
      obtain ⟨z, g1, g2⟩ := xentry_sound (P := P) s (he _ _ ha) h1
      exact ⟨_, z, w, r, h, ρ, ⟨by simp [execOp, g1], .inl rfl, List.mem_singleton.2 rfl, Ext.refl _ _, Nat.le_refl _, s, g2, Below.refl _ _⟩⟩
    · cases hr
  · -- convert
    split at hr
    · rename_i a ha
      obtain ⟨⟨r, h'⟩, h1, rfl⟩ := Option.map_eq_some_iff.1 hr
      obtain ⟨z, w', ρ', g1, g2, g3, g4, g5, g6⟩ := xbytes_sound hT s (he _ _ ha) h1
      exact ⟨_, z, w', r, h', ρ', ⟨by simp [execOp, g1], .inl rfl, List.mem_singleton.2 rfl, g2, g3, g4, g5, g6⟩⟩
    · cases hr
  · -- append
    rename_i args argTypes
    split at hr
    · rename_i sx x t u hx ht
      split at hr
      · rename_i a b ha hb
        obtain ⟨⟨r, h'⟩, h1, rfl⟩ := Option.map_eq_some_iff.1 hr
        have ea : args = #[sx, x] := by apply Array.ext'; simpa using hx
        have et : argTypes = #[t, u] := by apply Array.ext'; simpa using ht
        subst ea; subst et
        obtain ⟨z, w', ρ', g1, g2, g3, g4, g5, g6⟩ := xapp_sound (ty := ty) hT s (he _ _ ha) (he _ _ hb) h1
        exact ⟨_, z, w', r, h', ρ', ⟨by simp [execOp, resolve, invoke, builtin, g1], .inl rfl, List.mem_singleton.2 rfl, g2, g3, g4, g5, g6⟩⟩
      · cases hr
    · cases hr
  · -- clear
    rename_i args argTypes
    split at hr
    · rename_i x t hx ht
      split at hr
      · rename_i a ha
        obtain ⟨h', h1, rfl⟩ := Option.map_eq_some_iff.1 hr
        have ea : args = #[x] := by apply Array.ext'; simpa using hx
        have et : argTypes = #[t] := by apply Array.ext'; simpa using ht
        subst ea; subst et
        obtain ⟨w', g1, g2, g3, g4⟩ := xclear_sound (ty := ty) hT s (he _ _ ha) h1
        exact ⟨_, undef, w', _, h', ρ, ⟨by simp [execOp, resolve, invoke, builtin, g1]; rfl, .inl rfl, List.mem_singleton.2 rfl, Ext.refl _ _, Nat.le_of_eq g3.symm, g2, vr_unit _ _, g4⟩⟩
      · cases hr
    · cases hr
  · -- delete
    rename_i args argTypes
    split at hr
    · rename_i m k t u hx ht
      split at hr
      · rename_i a b ha hb
        obtain ⟨h', h1, rfl⟩ := Option.map_eq_some_iff.1 hr
        have ea : args = #[m, k] := by apply Array.ext'; simpa using hx
        have et : argTypes = #[t, u] := by apply Array.ext'; simpa using ht
        subst ea; subst et
        obtain ⟨w', g1, g2, g3, g4⟩ := xdel_sound (u := u) (ty := ty) hT s (he _ _ ha) (he _ _ hb) h1
        exact ⟨_, undef, w', _, h', ρ, ⟨by simp [execOp, resolve, invoke, builtin, g1]; rfl, .inl rfl, List.mem_singleton.2 rfl, Ext.refl _ _, Nat.le_of_eq g3.symm, g2, vr_unit _ _, g4⟩⟩
      · cases hr
    · cases hr
  · cases hr

end
end Go.Vex
