/-
  VEX, part F: all quiet operations as one function, 'xq', and its law.
-/
import Derived.Test.YteknlobdnjcdbaaVexE
set_option linter.unusedSimpArgs false
set_option linter.unusedVariables false
namespace Go.Vex

def evs (ev : Operand → Option V) : List Operand → Option (List V)
  | [] => some []
  | x :: xs => match ev x, evs ev xs with
    | some v, some vs => some (v :: vs)
    | _, _ => none

def evp (ev : Operand → Option V) : List (Nat × Operand) → Option (List (Nat × V))
  | [] => some []
  | (i, x) :: xs => match ev x, evp ev xs with
    | some v, some vs => some ((i, v) :: vs)
    | _, _ => none

def evo (ev : Operand → Option V) : Option Operand → Option (Option V)
  | none => some none
  | some x => (ev x).map some

section
variable {N : Nat} {ρ : Env} {ev : Operand → Option V} {rv : Operand → Value}

theorem evs_sound (he : EvR N ρ ev rv) : ∀ {xs : List Operand} {vs : List V}, evs ev xs = some vs → VRs N ρ vs (xs.map rv)
  | [], vs, h => by simp [evs] at h; subst h; rfl
  | x :: xs, vs, h => by
    unfold evs at h
    split at h
    · rename_i v us h1 h2
      cases h
      exact ⟨_, _, rfl, he _ _ h1, evs_sound he h2⟩
    · cases h

theorem evp_sound (he : EvR N ρ ev rv) : ∀ {xs : List (Nat × Operand)} {vs : List (Nat × V)}, evp ev xs = some vs → PartsR N ρ vs (xs.map fun (i, x) => (i, rv x))
  | [], vs, h => by simp [evp] at h; subst h; exact ⟨rfl, fun j i v hj => by simp at hj⟩
  | (i, x) :: xs, vs, h => by
    unfold evp at h
    split at h
    · rename_i v us h1 h2
      cases h
      obtain ⟨a, b⟩ := evp_sound he h2
      refine ⟨by simpa using a, fun j i' v' hj => ?_⟩
      cases j with
      | zero =>
        simp at hj
        obtain ⟨rfl, rfl⟩ := hj
        exact ⟨_, rfl, he _ _ h1⟩
      | succ j => exact b j i' v' (by simpa using hj)
    · cases h

theorem evo_sound (he : EvR N ρ ev rv) {o : Option Operand} {v : Option V} (h : evo ev o = some v) : OptR N ρ v (o.map rv) := by
  cases o with
  | none => simp [evo] at h; subst h; rfl
  | some x =>
    obtain ⟨u, hu, rfl⟩ := Option.map_eq_some_iff.1 h
    exact ⟨_, rfl, he _ _ hu⟩
end

def xnil (v : V) : Option V :=
  match v with
  | .ptr (some p) => some (.ptr (some p))
  | .fn (.func f) a b => some (.fn (.func f) a b)
  | .fn (.via t p f q) a b => some (.fn (.via t p f q) a b)
  | .yld l => some (.yld l)
  | .ifc t u => some (.ifc t u)
  | .agg cs => some (.agg cs)
  | .int k n => some (.int k n)
  | .str s => some (.str s)
  | .slc a n f => some (.slc a n f)
  | .map m => some (.map m)
  | _ => none

/-- an operation that changes nothing: what it comes to -/
def xq (T : TT) (h : Hp) (ev : Operand → Option V) : Op → Option V
  | .move x | .assign x => ev x
  | .pick c a b => match ev c with
    | some (.bool true) => ev a
    | some (.bool false) => ev b
    | _ => none
  | .load t a => match ev a with
    | some x => xload T h t x
    | none => none
  | .nilCheck x => match ev x with
    | some v => xnil v
    | none => none
  | .binOp op t x y _ => match ev x, ev y with
    | some a, some b => xbin T (isConst x || isConst y) op t a b
    | _, _ => none
  | .unOp op _ x => match ev x with
    | some a => xun op a
    | none => none
  | .convert src dst x => match ev x with
    | some a => xconv T h src dst a
    | none => none
  | .makeInterface t x => match T t, ev x with
    | some ti, some v => match ti.d with
      | .ifc => none
      | _ => some (.ifc t v)
    | _, _ => none
  | .makeFunc f fs cs => match f with
    | .yield _ => none
    | _ => match evs ev fs.toList, evs ev cs.toList with
      | some a, some b => some (.fn f a b)
      | _, _ => none
  | .fieldAddr t x f => match ev x with
    | some v => xfieldAddr T t v f
    | none => none
  | .field t x f => match ev x with
    | some v => xfield T t v f
    | none => none
  | .indexAddr t x ix => match ev x, ev ix with
    | some v, some i => xindexAddr T t v i
    | _, _ => none
  | .index t x ix => match ev x, ev ix with
    | some v, some i => xindex T t v i
    | _, _ => none
  | .slice t x lo hi mx => match ev x, evo ev lo, evo ev hi, evo ev mx with
    | some v, some l, some m, some q => xslice T h t v l m q
    | _, _, _, _ => none
  | .lookup t m k ok => match ev m, ev k with
    | some a, some b => xlook T h t a b ok
    | _, _ => none
  | .extract x i => match ev x with
    | some (.tup vs) => vs[i]?
    | _ => none
  | .build t ps => match evp ev ps.toList with
    | some l => xbuild T t l
    | none => none
  | .call { callee := .builtin .len, args, argTypes } => match args.toList, argTypes.toList with
    | [x], [t] => match ev x with
      | some v => xlen T h t v
      | none => none
    | _, _ => none
  | .call { callee := .builtin .min, args, argTypes := _ } => match evs ev args.toList with
    | some (x :: r) => xfold xmin2 x r
    | _ => none
  | .call { callee := .builtin .max, args, argTypes := _ } => match evs ev args.toList with
    | some (x :: r) => xfold xmax2 x r
    | _ => none
  | _ => none

section
variable {P : Program} {T : TT} {B : Nat} {ρ : Env} {h : Hp} {w : World} {ev : Operand → Option V} {rv : Operand → Value}

theorem xnil_sound {N : Nat} {v r : V} {u : Value} (hv : VR N ρ v u) (hr : xnil v = some r) :
    (∀ (P : Program) (w : World) o x, o.op = Op.nilCheck x → rv x = u → (execOp rv o).run P w = .ok (.value u) w) ∧ VR N ρ r u := by
  unfold xnil at hr
  split at hr
  · rename_i p
    cases hr
    obtain ⟨i, o⟩ := p
    refine ⟨fun P w o x ho hx => ?_, hv⟩
    rw [hv.2] at hx ⊢
    simp [execOp, ho, hx]
  · cases hr
    refine ⟨fun P w o x ho hx => ?_, hv⟩
    obtain ⟨_, us, vs, rfl, _⟩ := hv
    simp [execOp, ho, hx]
  · cases hr
    refine ⟨fun P w o x ho hx => ?_, hv⟩
    obtain ⟨_, us, vs, rfl, _⟩ := hv
    simp [execOp, ho, hx]
  · cases hr
    refine ⟨fun P w o x ho hx => ?_, hv⟩
    rw [hv.2] at hx ⊢
    simp [execOp, ho, hx]
  · cases hr
    refine ⟨fun P w o x ho hx => ?_, hv⟩
    obtain ⟨y, rfl, _⟩ := hv
    simp [execOp, ho, hx]
  · cases hr
    refine ⟨fun P w o x ho hx => ?_, hv⟩
    obtain ⟨y, rfl, _⟩ := hv
    simp [execOp, ho, hx]
  · cases hr
    refine ⟨fun P w o x ho hx => ?_, hv⟩
    rw [show u = _ from hv] at hx ⊢
    simp [execOp, ho, hx]
  · cases hr
    refine ⟨fun P w o x ho hx => ?_, hv⟩
    rw [show u = _ from hv] at hx ⊢
    simp [execOp, ho, hx]
  · rename_i a n f
    cases hr
    refine ⟨fun P w o x ho hx => ?_, hv⟩
    cases a with
    | none => rw [hv.2] at hx ⊢; simp [execOp, ho, hx]
    | some a => obtain ⟨_, a, cap, rfl, _⟩ := hv; simp [execOp, ho, hx]
  · rename_i a
    cases hr
    refine ⟨fun P w o x ho hx => ?_, hv⟩
    cases a with
    | none => rw [show u = _ from hv] at hx ⊢; simp [execOp, ho, hx]
    | some a => rw [hv.2] at hx ⊢; simp [execOp, ho, hx]
  · cases hr

theorem xconv_sound (hT : TTok P T) (s : Sat B ρ h w) {src dst : TypeId} {x : V} {u : Value} {r : V} (hx : VR h.next ρ x u) (hr : xconv T h src dst x = some r) :
    ∃ z, (convert src dst u).run P w = .ok z w ∧ VR h.next ρ r z := by
  unfold xconv at hr
  split at hr
  · rename_i si di hs hd
    obtain ⟨sd, hsd⟩ := hT.und hs
    split at hr
    · rename_i k _ n hk
      cases hr
      rw [show u = _ from hx]
      exact ⟨_, by simp [convert, Sem.run_bind, run_underlying hsd, run_underlying (hT.int hd hk), Conv.intToInt], rfl⟩
    · rename_i a hk
      cases hr
      rw [show u = _ from hx]
      exact ⟨_, by simp [convert, Sem.run_bind, run_underlying hsd, run_underlying (hT.str hd hk)], rfl⟩
    · rename_i a n f hk
      split at hr
      · rename_i e hse
        split at hr
        · rename_i ei hei
          split at hr
          · rename_i hu8
            cases hr
            obtain ⟨rfl, rfl⟩ := hx
            refine ⟨.string ⟨#[]⟩, ?_, rfl⟩
            rw [run_convert_bytes_string w src dst e none 0 0 (hT.slc hs hse) (hT.int hei hu8) (hT.str hd hk)]
            rfl
          · rename_i i o hu8
            split at hr
            · rename_i c esz ro hg
              split at hr
              · rename_i l hl
                obtain ⟨bs, hbs, rfl⟩ := Option.map_eq_some_iff.1 hr
                obtain ⟨_, a, cap, rfl, hb, hsp, hn, _, hoff⟩ := hx
                obtain ⟨xs, hxl, hxv, hxc⟩ := s.cells hg hl (a := a) (fun h0 => by
                  obtain ⟨ab, ao, asp⟩ := a
                  simp only at hb hsp hoff
                  rw [hb, hsp (by omega), (hoff (by omega)).1])
                obtain ⟨ns, rfl, rfl⟩ := bytesOf_sound hxv hbs
                refine ⟨.string ⟨(ns.map fun n : Int => UInt8.ofNat n.toNat).toArray⟩, ?_, rfl⟩
                rw [run_convert_bytes_string w src dst e (some a) n cap (hT.slc hs hse) (hT.int hei hu8) (hT.str hd hk)]
                have hlc := run_loadCells_list (P := P) w a _ hxc
                rw [hxl] at hlc
                rw [run_bytesToString w a n cap ns hlc, foldl_push_bytes]
                simp [ByteArray.empty, ByteArray.emptyWithCapacity]
                try rfl
              · cases hr
            · cases hr
          · cases hr
        · cases hr
      · cases hr
    · cases hr
  · cases hr

/-- THE LAW OF THE QUIET OPERATIONS. -/
theorem xq_sound (hT : TTok P T) (s : Sat B ρ h w) (he : EvR h.next ρ ev rv) (o : Oper) {r : V} (hr : xq T h ev o.op = some r) :
    ∃ z, (execOp rv o).run P w = .ok (.value z) w ∧ VR h.next ρ r z := by
  obtain ⟨dst, op, ty, pos, after, guard⟩ := o
  simp only at hr
  unfold xq at hr
  split at hr
  · exact ⟨_, by simp [execOp], he _ _ hr⟩
  · exact ⟨_, by simp [execOp], he _ _ hr⟩
  · rename_i c a b
    split at hr
    · rename_i hc
      have := he _ _ hc
      exact ⟨_, by simp [execOp, show rv c = _ from this, asBool], he _ _ hr⟩
    · rename_i hc
      have := he _ _ hc
      exact ⟨_, by simp [execOp, show rv c = _ from this, asBool], he _ _ hr⟩
    · cases hr
  · rename_i t a
    split at hr
    · rename_i x hx
      obtain ⟨z, h1, h2⟩ := xload_sound hT s (he _ _ hx) hr
      exact ⟨z, by simp [execOp, h1], h2⟩
    · cases hr
  · rename_i x
    split at hr
    · rename_i v hx
      obtain ⟨h1, h2⟩ := xnil_sound (rv := rv) (he _ _ hx) hr
      exact ⟨_, h1 P w _ x rfl rfl, h2⟩
    · cases hr
  · rename_i op t x y _
    split at hr
    · rename_i a b hx hy
      obtain ⟨z, h1, h2⟩ := xbin_sound hT w op t x y (he _ _ hx) (he _ _ hy) hr
      refine ⟨z, ?_, h2⟩
      simp only [execOp, Sem.run_bind] at h1 ⊢
      rw [h1]; rfl
    · cases hr
  · rename_i op t x
    split at hr
    · rename_i a hx
      obtain ⟨z, h1, h2⟩ := xun_sound (P := P) w op (he _ _ hx) hr
      exact ⟨z, by simp [execOp, h1], h2⟩
    · cases hr
  · rename_i src dst x
    split at hr
    · rename_i a hx
      obtain ⟨z, h1, h2⟩ := xconv_sound hT s (he _ _ hx) hr
      exact ⟨z, by simp [execOp, h1], h2⟩
    · cases hr
  · rename_i t x
    split at hr
    · rename_i ti v ht hx
      have hni : (Instr.makeInterface t (rv x)).run P w = .ok (.iface t (rv x)) w ∧ r = .ifc t v := by
        obtain ⟨i, d, _, h2, h3, _⟩ := hT.ok t ti ht
        split at hr
        · cases hr
        · rename_i hd
          cases hr
          refine ⟨?_, rfl⟩
          cases d <;> first | (simp [Instr.makeInterface, Sem.run_bind, run_underlying h2]; done) | (exfalso; rw [← h3] at hd; exact hd rfl)
      obtain ⟨h1, rfl⟩ := hni
      exact ⟨.iface t (rv x), by simp [execOp, h1], _, rfl, he _ _ hx⟩
    · cases hr
  · rename_i f fs cs
    split at hr
    · cases hr
    · rename_i hf
      split at hr
      · rename_i a b ha hb
        cases hr
        refine ⟨.func f (fs.map rv) (cs.map rv), by simp [execOp, Instr.makeFunc], fun l e => hf l e, _, _, rfl, ?_, ?_⟩
        · simpa using evs_sound he ha
        · simpa using evs_sound he hb
      · cases hr
  · rename_i t x f
    split at hr
    · rename_i v hx
      obtain ⟨z, h1, h2⟩ := xfieldAddr_sound hT w (he _ _ hx) hr
      exact ⟨z, by simp [execOp, h1], h2⟩
    · cases hr
  · rename_i t x f
    split at hr
    · rename_i v hx
      obtain ⟨z, h1, h2⟩ := xfield_sound hT w (he _ _ hx) hr
      exact ⟨z, by simp [execOp, h1], h2⟩
    · cases hr
  · rename_i t x ix
    split at hr
    · rename_i v i hx hi
      obtain ⟨z, h1, h2⟩ := xindexAddr_sound hT w (he _ _ hx) (he _ _ hi) hr
      exact ⟨z, by simp [execOp, h1], h2⟩
    · cases hr
  · rename_i t x ix
    split at hr
    · rename_i v i hx hi
      obtain ⟨z, h1, h2⟩ := xindex_sound hT w (he _ _ hx) (he _ _ hi) hr
      exact ⟨z, by simp [execOp, h1], h2⟩
    · cases hr
  · rename_i t x lo hi mx
    split at hr
    · rename_i v l m q hx hlo hhi hmx
      obtain ⟨z, h1, h2⟩ := xslice_sound hT s (he _ _ hx) (evo_sound he hlo) (evo_sound he hhi) (evo_sound he hmx) hr
      exact ⟨z, by simp [execOp, h1], h2⟩
    · cases hr
  · rename_i t m k ok
    split at hr
    · rename_i a b ha hb
      obtain ⟨z, h1, h2⟩ := xlook_sound hT s (he _ _ ha) (he _ _ hb) hr
      exact ⟨z, by simp [execOp, h1], h2⟩
    · cases hr
  · rename_i x i
    split at hr
    · rename_i vs hx
      obtain ⟨xs, hxs, hv⟩ := he _ _ hx
      obtain ⟨z, h1, h2⟩ := hv.get hr
      simp only [Array.getElem?_toList] at h1
      exact ⟨z, by simp [execOp, Instr.extract, hxs, h1], h2⟩
    · cases hr
  · rename_i t ps
    split at hr
    · rename_i l hl
      have hp := evp_sound he hl
      obtain ⟨z, h1, h2⟩ := xbuild_sound hT w (us := ps.map fun (i, x) => (i, rv x)) (by simpa using hp) hr
      exact ⟨z, by simp [execOp, h1], h2⟩
    · cases hr
  · rename_i args argTypes
    split at hr
    · rename_i x t hx ht
      split at hr
      · rename_i v hv
        obtain ⟨z, h1, h2⟩ := xlen_sound (ty := ty) hT s (he _ _ hv) hr
        have ea : args = #[x] := by apply Array.ext'; simpa using hx
        have et : argTypes = #[t] := by apply Array.ext'; simpa using ht
        subst ea; subst et
        exact ⟨z, by simp [execOp, resolve, invoke, builtin, h1], h2⟩
      · cases hr
    · cases hr
  · rename_i args _
    split at hr
    · rename_i x l hl
      have hv := evs_sound he hl
      obtain ⟨u, us, hu, hxu, hlu⟩ := hv
      obtain ⟨z, h1, h2⟩ := xfold_sound (P := P) w (fun x y u v r => xmin2_sound w x y u v r) l us x u r hxu hlu hr
      refine ⟨z, ?_, h2⟩
      have e : (args.map rv).toList = u :: us := by simpa using hu
      simp [execOp, resolve, invoke, builtin, Builtin.min_, hu, h1]
    · cases hr
  · rename_i args _
    split at hr
    · rename_i x l hl
      have hv := evs_sound he hl
      obtain ⟨u, us, hu, hxu, hlu⟩ := hv
      obtain ⟨z, h1, h2⟩ := xfold_sound (P := P) w (fun x y u v r => xmax2_sound w x y u v r) l us x u r hxu hlu hr
      refine ⟨z, ?_, h2⟩
      simp [execOp, resolve, invoke, builtin, Builtin.max_, hu, h1]
    · cases hr
  · cases hr

end
end Go.Vex
