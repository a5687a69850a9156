/-
  VEX, part F: all quiet operations as one function, 'xq', and its law.
-/
import Derived.Test.YtkfnokgfgcfldaaGreatVexE
import Derived.LaidEqlPtr
set_option linter.unusedSimpArgs false
set_option linter.unusedVariables false
namespace Go.Vex

/-- are two pointers the same one? Both lead to what is one's own -/
def xpeq (T : TT) (h : Hp) (t : TypeId) (a b : Option (Nat × Nat)) : Option Bool :=
  match veq T 12 t (.ptr a) (.ptr b) with
  | some r => some r
  | none => match T t, a, b with
    | some ti, some (i, o), some (j, p) => match ti.d with
      | .ptr e => match T e, h.get i, h.get j with
        | some ei, some (.row _ _ false), some (.row _ _ false) => bif Nat.ble 1 ei.size then some (Nat.beq i j && Nat.beq o p) else none
        | _, _, _ => none
      | _ => none
    | _, _, _ => none

def xpb (T : TT) (h : Hp) (op : BinOp) (t : TypeId) : V → V → Option V
  | .ptr a, .ptr b => match op with
    | .eql => (xpeq T h t a b).map V.bool
    | .neq => (xpeq T h t a b).map fun r => V.bool (!r)
    | _ => none
  | _, _ => none

def xbinh (T : TT) (h : Hp) (c : Bool) (op : BinOp) (t : TypeId) (a b : V) : Option V :=
  match xbin T c op t a b with
  | some r => some r
  | none => xpb T h op t a b

def evs (ev : Operand → Option V) : List Operand → Option (List V)
  | [] => some []
  | x :: xs => match ev x, evs ev xs with
    | some v, some vs => some (v :: vs)
    | _, _ => none

def evp (ev : Operand → Option V) : List (Nat × Operand) → Option (List (Nat × V))
  | [] => some []
  | (i, x) :: xs => match ev x, evp ev xs with
    | some v, some vs => some ((i, v) :: vs)
    | _, _ => none

def evo (ev : Operand → Option V) : Option Operand → Option (Option V)
  | none => some none
  | some x => (ev x).map some

section
variable {N : Nat} {ρ : Env} {ev : Operand → Option V} {rv : Operand → Value}

theorem evs_sound (he : EvR N ρ ev rv) : ∀ {xs : List Operand} {vs : List V}, evs ev xs = some vs → VRs N ρ vs (xs.map rv)
  | [], vs, h => by simp [evs] at h; subst h; rfl
  | x :: xs, vs, h => by
    unfold evs at h
    split at h
    · rename_i v us h1 h2
      cases h
      exact ⟨_, _, rfl, he _ _ h1, evs_sound he h2⟩
    · cases h

theorem evp_sound (he : EvR N ρ ev rv) : ∀ {xs : List (Nat × Operand)} {vs : List (Nat × V)}, evp ev xs = some vs → PartsR N ρ vs (xs.map fun (i, x) => (i, rv x))
  | [], vs, h => by simp [evp] at h; subst h; exact ⟨rfl, fun j i v hj => by simp at hj⟩
  | (i, x) :: xs, vs, h => by
    unfold evp at h
    split at h
    · rename_i v us h1 h2
      cases h
      obtain ⟨a, b⟩ := evp_sound he h2
      refine ⟨by simpa using a, fun j i' v' hj => ?_⟩
      cases j with
      | zero =>
        simp at hj
        obtain ⟨rfl, rfl⟩ := hj
        exact ⟨_, rfl, he _ _ h1⟩
      | succ j => exact b j i' v' (by simpa using hj)
    · cases h

theorem evo_sound (he : EvR N ρ ev rv) {o : Option Operand} {v : Option V} (h : evo ev o = some v) : OptR N ρ v (o.map rv) := by
  cases o with
  | none => simp [evo] at h; subst h; rfl
  | some x =>
    obtain ⟨u, hu, rfl⟩ := Option.map_eq_some_iff.1 h
    exact ⟨_, rfl, he _ _ hu⟩
end

def xnil (v : V) : Option V :=
  match v with
  | .ptr (some p) => some (.ptr (some p))
  | .fn (.func f) a b => some (.fn (.func f) a b)
  | .fn (.via t p f q) a b => some (.fn (.via t p f q) a b)
  | .yld l => some (.yld l)
  | .ifc t u => some (.ifc t u)
  | .agg cs => some (.agg cs)
  | .int k n => some (.int k n)
  | .str s => some (.str s)
  | .slc a n f => some (.slc a n f)
  | .map m => some (.map m)
  | _ => none

/-- an operation that changes nothing: what it comes to -/
def xq (T : TT) (h : Hp) (ev : Operand → Option V) : Op → Option V
  | .move x | .assign x => ev x
  | .pick c a b => match ev c with
    | some (.bool true) => ev a
    | some (.bool false) => ev b
    | _ => none
  | .load t a => match ev a with
    | some x => xload T h t x
    | none => none
  | .nilCheck x => match ev x with
    | some v => xnil v
    | none => none
  | .binOp op t x y _ => match ev x, ev y with
    | some a, some b => xbinh T h (isConst x || isConst y) op t a b
    | _, _ => none
  | .unOp op _ x => match ev x with
    | some a => xun op a
    | none => none
  | .convert src dst x => match ev x with
    | some a => xconv T h src dst a
    | none => none
  | .makeInterface t x => match T t, ev x with
    | some ti, some v => match ti.d with
      | .ifc => none
      | _ => some (.ifc t v)
    | _, _ => none
  | .makeFunc f fs cs => match f with
    | .yield _ => none
    | _ => match evs ev fs.toList, evs ev cs.toList with
      | some a, some b => some (.fn f a b)
      | _, _ => none
  | .fieldAddr t x f => match ev x with
    | some v => xfieldAddr T t v f
    | none => none
  | .field t x f => match ev x with
    | some v => xfield T t v f
    | none => none
  | .indexAddr t x ix => match ev x, ev ix with
    | some v, some i => xindexAddr T t v i
    | _, _ => none
  | .index t x ix => match ev x, ev ix with
    | some v, some i => xindex T t v i
    | _, _ => none
  | .slice t x lo hi mx => match ev x, evo ev lo, evo ev hi, evo ev mx with
    | some v, some l, some m, some q => xslice T h t v l m q
    | _, _, _, _ => none
  | .lookup t m k ok => match ev m, ev k with
    | some a, some b => xlook T h t a b ok
    | _, _ => none
  | .extract x i => match ev x with
    | some (.tup vs) => vs[i]?
    | _ => none
  | .build t ps => match evp ev ps.toList with
    | some l => xbuild T t l
    | none => none
  | .call { callee := .builtin .len, args, argTypes } => match args.toList, argTypes.toList with
    | [x], [t] => match ev x with
      | some v => xlen T h t v
      | none => none
    | _, _ => none
  | .call { callee := .builtin .min, args, argTypes := _ } => match evs ev args.toList with
    | some (x :: r) => xfold xmin2 x r
    | _ => none
  | .call { callee := .builtin .max, args, argTypes := _ } => match evs ev args.toList with
    | some (x :: r) => xfold xmax2 x r
    | _ => none
  | .call { callee := .builtin .real, args, argTypes := _ } => match evs ev args.toList with
    | some [.cplx k a _] => some (.flt k a)
    | _ => none
  | .call { callee := .builtin .imag, args, argTypes := _ } => match evs ev args.toList with
    | some [.cplx k _ b] => some (.flt k b)
    | _ => none
  | .call { callee := .builtin .complex, args, argTypes := _ } => match evs ev args.toList with
    | some [.flt k a, .flt k' b] => if k = k' then some (.cplx k a b) else none
    | _ => none
  | _ => none

section
variable {P : Program} {T : TT} {B : Nat} {ρ : Env} {h : Hp} {w : World} {ev : Operand → Option V} {rv : Operand → Value}

theorem xpeq_sound (hT : TTok P T) (s : Sat B ρ h w) {t : TypeId} {a b : Option (Nat × Nat)} {r : Bool} {u v : Value} (hx : VR h.next ρ (.ptr a) u) (hy : VR h.next ρ (.ptr b) v) (hr : xpeq T h t a b = some r) :
    (binOp .eql t u v).run P w = .ok (.bool r) w ∧ (binOp .neq t u v).run P w = .ok (.bool (!r)) w := by
  have hpt : ∀ {a : Option (Nat × Nat)} {u : Value}, VR h.next ρ (.ptr a) u → ∃ x, u = .pointer x := by
    intro a u hx
    cases a with
    | none => exact ⟨_, hx⟩
    | some io => exact ⟨_, hx.2⟩
  obtain ⟨pu, rfl⟩ := hpt hx
  obtain ⟨pv, rfl⟩ := hpt hy
  have ho := run_eql_other (P := P) w t (.pointer pu) (.pointer pv) (fun _ _ _ _ e => by cases e) (fun _ _ e => by cases e) (fun _ _ e => by cases e) (fun _ _ _ e => by cases e)
  suffices hs : (Op.equal t (.pointer pu) (.pointer pv)).run P w = .ok r w by
    rw [ho.1, ho.2, hs]; exact ⟨rfl, rfl⟩
  unfold xpeq at hr
  split at hr
  · rename_i r' hv
    cases hr
    exact veq_sound hT w (12 + 9988) t _ _ _ _ _ hx hy (veq_le 9988 hv)
  · split at hr
    · rename_i ti i o j p ht _
      split at hr
      · rename_i e hd
        split at hr
        · rename_i ei c es c' es' he hgi hgj
          cases hz : Nat.ble 1 ei.size with
          | false => rw [hz] at hr; cases hr
          | true =>
            rw [hz] at hr
            cases hr
            obtain ⟨hi, hu⟩ := hx
            obtain ⟨hj, hv⟩ := hy
            cases hu; cases hv
            obtain ⟨inf, d, hinf, h2, h3, hsz⟩ := hT.ok e ei he
            have hpe := hT.ptr ht hd
            obtain ⟨_, _, C, el, fr, hC, _, _, _, _, _, hrw⟩ := s.obj i _ hgi
            obtain ⟨hB, rfl⟩ := hrw rfl
            obtain ⟨_, _, C', el', fr', hC', _, _, _, _, _, hrw'⟩ := s.obj j _ hgj
            obtain ⟨hB', rfl⟩ := hrw' rfl
            have hsz' : inf.size ≠ 0 := by
              have := Nat.le_of_ble_eq_true hz
              have := hsz.1
              omega
            by_cases e : i = j ∧ o = p
            · obtain ⟨rfl, rfl⟩ := e
              have h : ∀ d : Nat, (Op.equalIn (d + 1) t (.pointer (some ⟨(ρ i).blk, (ρ i).base + o, none⟩)) (.pointer (some ⟨(ρ i).blk, (ρ i).base + o, none⟩))).run P w = .ok true w := fun d => by
                simp [Op.equalIn, run_underlying hpe, sizeOf, typeInfo, hinf, run_sameAddr_same]
              rw [show (Nat.beq i i && Nat.beq o o) = true by simp [Nat.beq_refl]]
              exact h 9999
            · have hne : (⟨(ρ i).blk, (ρ i).base + o, none⟩ : Addr) ≠ ⟨(ρ j).blk, (ρ j).base + p, none⟩ := by
                intro he
                injection he with e1 e2
                by_cases hij : i = j
                · subst hij
                  exact e ⟨rfl, by omega⟩
                · exact s.sep i j _ _ hgi hgj hij rfl rfl e1
              have h : ∀ d : Nat, (Op.equalIn (d + 1) t (.pointer (some ⟨(ρ i).blk, (ρ i).base + o, none⟩)) (.pointer (some ⟨(ρ j).blk, (ρ j).base + p, none⟩))).run P w = .ok false w := fun d => by
                simp [Op.equalIn, run_underlying hpe, sizeOf, typeInfo, hinf, hsz', run_sameAddr_other w hne hC hC']
              have hf : (Nat.beq i j && Nat.beq o p) = false := by
                rw [Bool.eq_false_iff]
                intro ht
                rw [Bool.and_eq_true] at ht
                exact e ⟨Nat.eq_of_beq_eq_true ht.1, Nat.eq_of_beq_eq_true ht.2⟩
              rw [hf]
              exact h 9999
        · cases hr
      · cases hr
    · cases hr

theorem xbinh_sound (hT : TTok P T) (s : Sat B ρ h w) (op : BinOp) (t : TypeId) (xo yo : Operand) {x y : V} {u v : Value} {r : V} (hx : VR h.next ρ x u) (hy : VR h.next ρ y v)
    (hr : xbinh T h (isConst xo || isConst yo) op t x y = some r) : ∃ z, (do eqGuard op t xo yo u v; binOp op t u v : Sem Value).run P w = .ok z w ∧ VR h.next ρ r z := by
  unfold xbinh at hr
  split at hr
  · rename_i r' hb
    cases hr
    exact xbin_sound hT w op t xo yo hx hy hb
  · unfold xpb at hr
    split at hr
    · rename_i a b _
      have hg : (eqGuard op t xo yo u v).run P w = .ok () w := by
        have e1 : ∃ p, u = .pointer p := by
          cases a with
          | none => exact ⟨_, hx⟩
          | some io => exact ⟨_, hx.2⟩
        obtain ⟨p, rfl⟩ := e1
        have : eqGuard op t xo yo (.pointer p) v = pure () := by cases op <;> rfl
        rw [this]; simp
      split at hr
      · cases hp : xpeq T h t a b with
        | none => rw [hp] at hr; cases hr
        | some q =>
          rw [hp] at hr; cases hr
          exact ⟨_, by simp only [Sem.run_bind, hg, Result.andThen_ok, (xpeq_sound hT s hx hy hp).1], rfl⟩
      · cases hp : xpeq T h t a b with
        | none => rw [hp] at hr; cases hr
        | some q =>
          rw [hp] at hr; cases hr
          exact ⟨_, by simp only [Sem.run_bind, hg, Result.andThen_ok, (xpeq_sound hT s hx hy hp).2], rfl⟩
      · cases hr
    · cases hr

theorem xnil_sound {N : Nat} {v r : V} {u : Value} (hv : VR N ρ v u) (hr : xnil v = some r) :
    (∀ (P : Program) (w : World) o x, o.op = Op.nilCheck x → rv x = u → (execOp rv o).run P w = .ok (.value u) w) ∧ VR N ρ r u := by
  unfold xnil at hr
  split at hr
  · rename_i p
    cases hr
    obtain ⟨i, o⟩ := p
    refine ⟨fun P w o x ho hx => ?_, hv⟩
    rw [hv.2] at hx ⊢
    simp [execOp, ho, hx]
  · cases hr
    refine ⟨fun P w o x ho hx => ?_, hv⟩
    obtain ⟨_, us, vs, rfl, _⟩ := hv
    simp [execOp, ho, hx]
  · cases hr
    refine ⟨fun P w o x ho hx => ?_, hv⟩
    obtain ⟨_, us, vs, rfl, _⟩ := hv
    simp [execOp, ho, hx]
  · cases hr
    refine ⟨fun P w o x ho hx => ?_, hv⟩
    rw [hv.2] at hx ⊢
    simp [execOp, ho, hx]
  · cases hr
    refine ⟨fun P w o x ho hx => ?_, hv⟩
    obtain ⟨y, rfl, _⟩ := hv
    simp [execOp, ho, hx]
  · cases hr
    refine ⟨fun P w o x ho hx => ?_, hv⟩
    obtain ⟨y, rfl, _⟩ := hv
    simp [execOp, ho, hx]
  · cases hr
    refine ⟨fun P w o x ho hx => ?_, hv⟩
    rw [show u = _ from hv] at hx ⊢
    simp [execOp, ho, hx]
  · cases hr
    refine ⟨fun P w o x ho hx => ?_, hv⟩
    rw [show u = _ from hv] at hx ⊢
    simp [execOp, ho, hx]
  · rename_i a n f
    cases hr
    refine ⟨fun P w o x ho hx => ?_, hv⟩
    cases a with
    | none => rw [hv.2] at hx ⊢; simp [execOp, ho, hx]
    | some a => obtain ⟨_, a, cap, rfl, _⟩ := hv; simp [execOp, ho, hx]
  · rename_i a
    cases hr
    refine ⟨fun P w o x ho hx => ?_, hv⟩
    cases a with
    | none => rw [show u = _ from hv] at hx ⊢; simp [execOp, ho, hx]
    | some a => rw [hv.2] at hx ⊢; simp [execOp, ho, hx]
  · cases hr

theorem TTok.flt {P : Program} {T : TT} (hT : TTok P T) {t : TypeId} {ti : TI} {k : FloatKind} (h : T t = some ti) (hd : ti.d = .flt k) : P.underlying t = some (.float k) := by
  obtain ⟨i, d, _, h2, h3, _⟩ := hT.ok t ti h
  rw [hd] at h3
  cases d <;> simp [TD.of] at h3
  subst h3; exact h2

theorem xconv_sound (hT : TTok P T) (s : Sat B ρ h w) {src dst : TypeId} {x : V} {u : Value} {r : V} (hx : VR h.next ρ x u) (hr : xconv T h src dst x = some r) :
    ∃ z, (convert src dst u).run P w = .ok z w ∧ VR h.next ρ r z := by
  unfold xconv at hr
  split at hr
  · rename_i si di hs hd
    obtain ⟨sd, hsd⟩ := hT.und hs
    split at hr
    · rename_i k _ n hk
      cases hr
      rw [show u = _ from hx]
      exact ⟨_, by simp [convert, Sem.run_bind, run_underlying hsd, run_underlying (hT.int hd hk), Conv.intToInt], rfl⟩
    · rename_i a hk
      cases hr
      rw [show u = _ from hx]
      exact ⟨_, by simp [convert, Sem.run_bind, run_underlying hsd, run_underlying (hT.str hd hk)], rfl⟩
    · rename_i a n f hk
      split at hr
      · rename_i e hse
        split at hr
        · rename_i ei hei
          split at hr
          · rename_i hu8
            cases hr
            obtain ⟨rfl, rfl⟩ := hx
            refine ⟨.string ⟨#[]⟩, ?_, rfl⟩
            rw [run_convert_bytes_string w src dst e none 0 0 (hT.slc hs hse) (hT.int hei hu8) (hT.str hd hk)]
            rfl
          · rename_i i o hu8
            split at hr
            · rename_i c esz ro hg
              split at hr
              · rename_i l hl
                obtain ⟨bs, hbs, rfl⟩ := Option.map_eq_some_iff.1 hr
                obtain ⟨_, a, cap, rfl, hb, hsp, hn, _, hoff⟩ := hx
                obtain ⟨xs, hxl, hxv, hxc⟩ := s.cells hg hl (a := a) (fun h0 => by
                  obtain ⟨ab, ao, asp⟩ := a
                  simp only at hb hsp hoff
                  rw [hb, hsp (by omega), (hoff (by omega)).1])
                obtain ⟨ns, rfl, rfl⟩ := bytesOf_sound hxv hbs
                refine ⟨.string ⟨(ns.map fun n : Int => UInt8.ofNat n.toNat).toArray⟩, ?_, rfl⟩
                rw [run_convert_bytes_string w src dst e (some a) n cap (hT.slc hs hse) (hT.int hei hu8) (hT.str hd hk)]
                have hlc := run_loadCells_list (P := P) w a _ hxc
                rw [hxl] at hlc
                rw [run_bytesToString w a n cap ns hlc, foldl_push_bytes]
                simp [ByteArray.empty, ByteArray.emptyWithCapacity]
                try rfl
              · cases hr
            · cases hr
          · cases hr
        · cases hr
      · cases hr
    · rename_i k _ n hk
      cases hr
      rw [show u = _ from hx]
      exact ⟨_, by simp [convert, Sem.run_bind, run_underlying hsd, run_underlying (hT.flt hd hk), Conv.intToFloat], rfl⟩
    · rename_i k κ b hk
      split at hr
      · rename_i n hn
        cases hc : (decide (k.min ≤ n) && decide (n ≤ k.max)) with
        | false => rw [hc] at hr; cases hr
        | true =>
          rw [hc] at hr
          simp only [cond_true] at hr
          cases hr
          rw [Bool.and_eq_true, decide_eq_true_eq, decide_eq_true_eq] at hc
          rw [show u = _ from hx]
          exact ⟨_, by simp [convert, Sem.run_bind, run_underlying hsd, run_underlying (hT.int hd hk), Conv.floatToInt, hn, hc.1, hc.2], rfl⟩
      · cases hr
    · cases hr
  · cases hr

/-- THE LAW OF THE QUIET OPERATIONS. -/
theorem xq_sound (hT : TTok P T) (s : Sat B ρ h w) (he : EvR h.next ρ ev rv) (o : Oper) {r : V} (hr : xq T h ev o.op = some r) :
    ∃ z, (execOp rv o).run P w = .ok (.value z) w ∧ VR h.next ρ r z := by
  obtain ⟨dst, op, ty, pos, after, guard⟩ := o
  simp only at hr
  unfold xq at hr
  split at hr
  · exact ⟨_, by simp [execOp], he _ _ hr⟩
  · exact ⟨_, by simp [execOp], he _ _ hr⟩
  · rename_i c a b
    split at hr
    · rename_i hc
      have := he _ _ hc
      exact ⟨_, by simp [execOp, show rv c = _ from this, asBool], he _ _ hr⟩
    · rename_i hc
      have := he _ _ hc
      exact ⟨_, by simp [execOp, show rv c = _ from this, asBool], he _ _ hr⟩
    · cases hr
  · rename_i t a
    split at hr
    · rename_i x hx
      obtain ⟨z, h1, h2⟩ := xload_sound hT s (he _ _ hx) hr
      exact ⟨z, by simp [execOp, h1], h2⟩
    · cases hr
  · rename_i x
    split at hr
    · rename_i v hx
      obtain ⟨h1, h2⟩ := xnil_sound (rv := rv) (he _ _ hx) hr
      exact ⟨_, h1 P w _ x rfl rfl, h2⟩
    · cases hr
  · rename_i op t x y _
    split at hr
    · rename_i a b hx hy
      obtain ⟨z, h1, h2⟩ := xbinh_sound hT s op t x y (he _ _ hx) (he _ _ hy) hr
      refine ⟨z, ?_, h2⟩
      simp only [execOp, Sem.run_bind] at h1 ⊢
      rw [h1]; rfl
    · cases hr
  · rename_i op t x
    split at hr
    · rename_i a hx
      obtain ⟨z, h1, h2⟩ := xun_sound (P := P) w op (he _ _ hx) hr
      exact ⟨z, by simp [execOp, h1], h2⟩
    · cases hr
  · rename_i src dst x
    split at hr
    · rename_i a hx
      obtain ⟨z, h1, h2⟩ := xconv_sound hT s (he _ _ hx) hr
      exact ⟨z, by simp [execOp, h1], h2⟩
    · cases hr
  · rename_i t x
    split at hr
    · rename_i ti v ht hx
      have hni : (Instr.makeInterface t (rv x)).run P w = .ok (.iface t (rv x)) w ∧ r = .ifc t v := by
        obtain ⟨i, d, _, h2, h3, _⟩ := hT.ok t ti ht
        split at hr
        · cases hr
        · rename_i hd
          cases hr
          refine ⟨?_, rfl⟩
          cases d <;> first | (simp [Instr.makeInterface, Sem.run_bind, run_underlying h2]; done) | (exfalso; rw [← h3] at hd; exact hd rfl)
      obtain ⟨h1, rfl⟩ := hni
      exact ⟨.iface t (rv x), by simp [execOp, h1], _, rfl, he _ _ hx⟩
    · cases hr
  · rename_i f fs cs
    split at hr
    · cases hr
    · rename_i hf
      split at hr
      · rename_i a b ha hb
        cases hr
        refine ⟨.func f (fs.map rv) (cs.map rv), by simp [execOp, Instr.makeFunc], fun l e => hf l e, _, _, rfl, ?_, ?_⟩
        · simpa using evs_sound he ha
        · simpa using evs_sound he hb
      · cases hr
  · rename_i t x f
    split at hr
    · rename_i v hx
      obtain ⟨z, h1, h2⟩ := xfieldAddr_sound hT w (he _ _ hx) hr
      exact ⟨z, by simp [execOp, h1], h2⟩
    · cases hr
  · rename_i t x f
    split at hr
    · rename_i v hx
      obtain ⟨z, h1, h2⟩ := xfield_sound hT w (he _ _ hx) hr
      exact ⟨z, by simp [execOp, h1], h2⟩
    · cases hr
  · rename_i t x ix
    split at hr
    · rename_i v i hx hi
      obtain ⟨z, h1, h2⟩ := xindexAddr_sound hT w (he _ _ hx) (he _ _ hi) hr
      exact ⟨z, by simp [execOp, h1], h2⟩
    · cases hr
  · rename_i t x ix
    split at hr
    · rename_i v i hx hi
      obtain ⟨z, h1, h2⟩ := xindex_sound hT w (he _ _ hx) (he _ _ hi) hr
      exact ⟨z, by simp [execOp, h1], h2⟩
    · cases hr
  · rename_i t x lo hi mx
    split at hr
    · rename_i v l m q hx hlo hhi hmx
      obtain ⟨z, h1, h2⟩ := xslice_sound hT s (he _ _ hx) (evo_sound he hlo) (evo_sound he hhi) (evo_sound he hmx) hr
      exact ⟨z, by simp [execOp, h1], h2⟩
    · cases hr
  · rename_i t m k ok
    split at hr
    · rename_i a b ha hb
      obtain ⟨z, h1, h2⟩ := xlook_sound hT s (he _ _ ha) (he _ _ hb) hr
      exact ⟨z, by simp [execOp, h1], h2⟩
    · cases hr
  · rename_i x i
    split at hr
    · rename_i vs hx
      obtain ⟨xs, hxs, hv⟩ := he _ _ hx
      obtain ⟨z, h1, h2⟩ := hv.get hr
      simp only [Array.getElem?_toList] at h1
      exact ⟨z, by simp [execOp, Instr.extract, hxs, h1], h2⟩
    · cases hr
  · rename_i t ps
    split at hr
    · rename_i l hl
      have hp := evp_sound he hl
      obtain ⟨z, h1, h2⟩ := xbuild_sound hT w (us := ps.map fun (i, x) => (i, rv x)) (by simpa using hp) hr
      exact ⟨z, by simp [execOp, h1], h2⟩
    · cases hr
  · rename_i args argTypes
    split at hr
    · rename_i x t hx ht
      split at hr
      · rename_i v hv
        obtain ⟨z, h1, h2⟩ := xlen_sound (ty := ty) hT s (he _ _ hv) hr
        have ea : args = #[x] := by apply Array.ext'; simpa using hx
        have et : argTypes = #[t] := by apply Array.ext'; simpa using ht
        subst ea; subst et
        exact ⟨z, by simp [execOp, resolve, invoke, builtin, h1], h2⟩
      · cases hr
    · cases hr
  · rename_i args _
    split at hr
    · rename_i x l hl
      have hv := evs_sound he hl
      obtain ⟨u, us, hu, hxu, hlu⟩ := hv
      obtain ⟨z, h1, h2⟩ := xfold_sound (P := P) w (fun x y u v r => xmin2_sound w x y u v r) l us x u r hxu hlu hr
      refine ⟨z, ?_, h2⟩
      have e : (args.map rv).toList = u :: us := by simpa using hu
      simp [execOp, resolve, invoke, builtin, Builtin.min_, hu, h1]
    · cases hr
  · rename_i args _
    split at hr
    · rename_i x l hl
      have hv := evs_sound he hl
      obtain ⟨u, us, hu, hxu, hlu⟩ := hv
      obtain ⟨z, h1, h2⟩ := xfold_sound (P := P) w (fun x y u v r => xmax2_sound w x y u v r) l us x u r hxu hlu hr
      refine ⟨z, ?_, h2⟩
      simp [execOp, resolve, invoke, builtin, Builtin.max_, hu, h1]
    · cases hr
  · rename_i args _
    split at hr
    · rename_i k a b hl
      cases hr
      obtain ⟨u, us, hu, hxu, hlu⟩ := evs_sound he hl
      cases us with
      | nil =>
        rw [show u = _ from hxu] at hu
        have e : (args.map rv) = #[.complex k a b] := by apply Array.ext'; simpa using hu
        have er : ∀ x y, Builtin.real_ x y #[.complex k a b] = (pure (.float k a) : Sem Value) := fun _ _ => rfl
        exact ⟨_, by simp [execOp, resolve, invoke, builtin, e, er], rfl⟩
      | cons y ys => cases hlu
    · cases hr
  · rename_i args _
    split at hr
    · rename_i k a b hl
      cases hr
      obtain ⟨u, us, hu, hxu, hlu⟩ := evs_sound he hl
      cases us with
      | nil =>
        rw [show u = _ from hxu] at hu
        have e : (args.map rv) = #[.complex k a b] := by apply Array.ext'; simpa using hu
        have er : ∀ x y, Builtin.imag_ x y #[.complex k a b] = (pure (.float k b) : Sem Value) := fun _ _ => rfl
        exact ⟨_, by simp [execOp, resolve, invoke, builtin, e, er], rfl⟩
      | cons y ys => cases hlu
    · cases hr
  · rename_i args _
    split at hr
    · rename_i k a k' b hl
      split at hr
      · rename_i ek
        subst ek
        cases hr
        obtain ⟨u, us, hu, hxu, u2, us2, hu2, hxu2, hlu⟩ := evs_sound he hl
        subst hu2
        cases us2 with
        | nil =>
          rw [show u = _ from hxu, show u2 = _ from hxu2] at hu
          have e : (args.map rv) = #[.float k a, .float k b] := by apply Array.ext'; simpa using hu
          have er : ∀ x y, Builtin.complex_ x y #[.float k a, .float k b] = (pure (.complex k a b) : Sem Value) := fun _ _ => by
            show (if k = k then pure (Value.complex k a b) else _) = _
            rw [if_pos rfl]
          exact ⟨_, by simp [execOp, resolve, invoke, builtin, e, er], rfl⟩
        | cons y ys => cases hlu
      · cases hr
    · cases hr
  · cases hr

end
end Go.Vex
