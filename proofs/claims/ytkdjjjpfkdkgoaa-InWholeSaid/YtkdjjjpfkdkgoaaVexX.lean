/-
  VEX, part X: a law's arguments: what the caller's data are, as the abstract heap has them.
-/
import Derived.Test.YtkdjjjpfkdkgoaaVexW
import Derived.ChangeArms
import Derived.DataReads
import Derived.SizedLaws
set_option linter.unusedSimpArgs false
set_option linter.unusedVariables false
namespace Go.Vex
open Go.RowKit (Below)

/-- within its kind's bounds -/
def V.fits : V → Prop
  | .int k n => k.min ≤ n ∧ n ≤ k.max
  | .str s => s.length ≤ reachBytes
  | _ => True

def flatZs (f : TypeId → Option (List V)) (T : TT) : Nat → List (Nat × TypeId × Bool) → Option (List V)
  | _, [] => some []
  | o, (off, ft, _) :: fs => match f ft, T ft with
    | some l, some fi => bif Nat.beq off o && Nat.beq l.length fi.size then match flatZs f T (o + l.length) fs with
      | some r => some (l ++ r)
      | none => none
      else none
    | _, _ => none

/-- the cells of a type made of numbers, strings, truth values and structs of them -/
def flatZ (T : TT) : Nat → TypeId → Option (List V)
  | 0, _ => none
  | d + 1, t => match T t with
    | some ti => match ti.d with
      | .int k => some [.int k 0]
      | .str => some [.str []]
      | .bool => some [.bool false]
      | .struct fs => match flatZs (flatZ T d) T 0 fs with
        | some l => bif Nat.beq l.length ti.size then some l else none
        | none => none
      | _ => none
    | none => none

/-- cells of known forms, within bounds, that lead nowhere -/
structure Flat (zs vs : List V) (cs : List Value) : Prop where
  shp : shpBs zs vs = true
  rel : ∀ N ρ, VRs N ρ vs cs
  fits : ∀ v ∈ vs, v.fits
  one : ∀ v ∈ vs, v.one = true

theorem shpBs_append : ∀ {zs ys vs us : List V}, shpBs zs vs = true → shpBs ys us = true → shpBs (zs ++ ys) (vs ++ us) = true
  | [], _, [], _, _, h => h
  | [], _, _ :: _, _, h, _ => by simp [shpBs] at h
  | _ :: _, _, [], _, h, _ => by simp [shpBs] at h
  | z :: zs, _, v :: vs, _, h, h' => by
    simp only [shpBs, Bool.and_eq_true] at h
    simp only [List.cons_append, shpBs, Bool.and_eq_true]
    exact ⟨h.1, shpBs_append h.2 h'⟩

theorem shpBs_length : ∀ {zs vs : List V}, shpBs zs vs = true → vs.length = zs.length
  | [], [], _ => rfl
  | [], _ :: _, h => by simp [shpBs] at h
  | _ :: _, [], h => by simp [shpBs] at h
  | z :: zs, v :: vs, h => by
    simp only [shpBs, Bool.and_eq_true] at h
    simp [shpBs_length h.2]

theorem Flat.append {zs ys vs us : List V} {cs ds : List Value} (h : Flat zs vs cs) (h' : Flat ys us ds) : Flat (zs ++ ys) (vs ++ us) (cs ++ ds) :=
  ⟨shpBs_append h.shp h'.shp, fun N ρ => (h.rel N ρ).append (h'.rel N ρ), fun v hv => (List.mem_append.1 hv).elim (h.fits v) (h'.fits v), fun v hv => (List.mem_append.1 hv).elim (h.one v) (h'.one v)⟩

theorem Flat.length {zs vs : List V} {cs : List Value} (h : Flat zs vs cs) : cs.length = zs.length := by
  have h1 := (h.rel 0 fun _ => ⟨0, 0, 0, 0⟩).length
  rw [h1, shpBs_length h.shp]

section
variable {P : Program} {T : TT} {H : Type} {enc : TypeId × Value → H} {w : World} {base B : Nat} {sp : Nat → Bool} {held : Bool}

theorem TTok.cellsOf (hT : TTok P T) {t : TypeId} {ti : TI} (h : T t = some ti) : P.cellsOf t = ti.size := by
  obtain ⟨i, d, h1, h2, h3, h4, _⟩ := hT.ok t ti h
  simp [Program.cellsOf, h1, h4]

theorem trod_flats (hT : TTok P T) {g : TypeId → Option (List V)} (IH : ∀ (t : TypeId) (zs : List V), g t = some zs → ∀ (fuel : Nat) (cs : List Value) (x : DataW H × List MemPlace), DataW.trod enc P w base sp held fuel t cs = some x → (∀ n ∈ x.1.weights P t, n ≤ reachBytes) → ∃ vs, Flat zs vs cs) : ∀ (o : Nat) (fs : List (Nat × TypeId × Bool)) (zs : List V), flatZs g T o fs = some zs → ∀ (gs : List Field), fs = gs.map (fun f => (f.offset, f.type, f.name != "_")) →
    ∀ (n : Nat) (cs : List Value), cs.length = o + zs.length → (∀ (i : Nat) (f : Field), gs[i]? = some f → ∃ x : DataW H × List MemPlace, DataW.trod enc P w base sp held n f.type ((cs.drop f.offset).take (P.cellsOf f.type)) = some x ∧ ∀ n ∈ x.1.weights P f.type, n ≤ reachBytes) →
    ∃ vs, Flat zs vs (cs.drop o)
  | o, [], zs, h => by
    intro gs hg n cs hc hf
    simp only [flatZs] at h
    cases h
    refine ⟨[], rfl, fun N ρ => ?_, by simp, by simp⟩
    rw [List.drop_of_length_le (by simp at hc; omega)]
    rfl
  | o, (off, ft, nm) :: fs, zs, h => by
    intro gs hg n cs hc hf
    simp only [flatZs] at h
    split at h
    · rename_i l fi hl hfi
      cases hb : (Nat.beq off o && Nat.beq l.length fi.size) with
      | false => rw [hb] at h; cases h
      | true =>
        rw [hb] at h
        simp only [cond_true] at h
        split at h
        · rename_i r hr
          cases h
          simp only [Bool.and_eq_true, nbeq] at hb
          cases gs with
          | nil => simp at hg
          | cons g' gs =>
            simp only [List.map_cons, List.cons.injEq, Prod.mk.injEq] at hg
            obtain ⟨⟨rfl, rfl, _⟩, hg⟩ := hg
            obtain ⟨x, hx, hxw⟩ := hf 0 g' rfl
            obtain ⟨rfl, hls⟩ := hb
            rw [hT.cellsOf hfi, ← hls] at hx
            obtain ⟨vs, hv⟩ := IH _ _ hl n _ _ hx hxw
            obtain ⟨us, hu⟩ := trod_flats hT IH _ fs r hr gs hg n cs (by simp at hc; omega) fun i f hi => hf (i + 1) f (by simpa using hi)
            refine ⟨vs ++ us, ?_⟩
            have := hv.append hu
            rw [← List.drop_drop, List.take_append_drop] at this
            exact this
        · cases h
    · cases h

theorem trod_flat (hT : TTok P T) : ∀ (d : Nat) (t : TypeId) (zs : List V), flatZ T d t = some zs → ∀ (fuel : Nat) (cs : List Value) (x : DataW H × List MemPlace), DataW.trod enc P w base sp held fuel t cs = some x → (∀ n ∈ x.1.weights P t, n ≤ reachBytes) → ∃ vs, Flat zs vs cs
  | 0, t, zs, h => by simp [flatZ] at h
  | d + 1, t, zs, h => by
    intro fuel cs x hx hwt
    simp only [flatZ] at h
    split at h
    · rename_i ti ht
      split at h
      · rename_i k hd
        cases h
        obtain ⟨n, rfl, _, hw⟩ := DataW.trod_int (hT.int ht hd) hx
        simp only [Lit.wf, Bool.and_eq_true, decide_eq_true_eq] at hw
        exact ⟨[.int k n], by simp [shpBs, shpB], fun N ρ => ⟨_, _, rfl, rfl, rfl⟩, by simpa [V.fits] using hw, by simp [V.one]⟩
      · rename_i hd
        cases h
        obtain ⟨s, rfl, rfl, _⟩ := DataW.trod_string (hT.str ht hd) hx
        have hw : s.data.toList.length ≤ reachBytes := hwt _ (by simp [DataW.weights])
        exact ⟨[.str s.data.toList], by simp [shpBs, shpB], fun N ρ => ⟨_, _, rfl, rfl, rfl⟩, by simpa [V.fits] using hw, by simp [V.one]⟩
      · rename_i hd
        cases h
        obtain ⟨b, rfl, _⟩ := DataW.trod_bool (hT.bool ht hd) hx
        exact ⟨[.bool b], by simp [shpBs, shpB], fun N ρ => ⟨_, _, rfl, rfl, rfl⟩, by simp [V.fits], by simp [V.one]⟩
      · rename_i fs hd
        split at h
        · rename_i l hl
          cases hb : Nat.beq l.length ti.size with
          | false => rw [hb] at h; cases h
          | true =>
            rw [hb] at h
            cases h
            obtain ⟨gs, hu, hfs⟩ := hT.struct ht hd
            obtain ⟨xs, n, _, rfl, hlen, hxl, hf⟩ := DataW.trod_struct hu hx
            rw [hT.cellsOf ht] at hlen
            obtain ⟨vs, hvs⟩ := trod_flats hT (trod_flat hT d) 0 fs zs hl gs.toList hfs n cs (by rw [hlen, ← Nat.eq_of_beq_eq_true hb]; omega) fun i f hi => by
              have := hf i f (by simpa using hi)
              have hi' : i < xs.length := by rw [hxl]; simpa using (List.getElem?_eq_some_iff.1 hi).1
              refine ⟨xs[i], by rw [this]; exact List.getElem?_eq_getElem hi', fun m hm => hwt m ?_⟩
              simp only [DataW.weights, hu]
              exact DataW.weights_mem_each (j := i) (t := f.type) (d := xs[i].1) (by simp [show gs[i]? = some f by simpa using hi]) (by simp [List.getElem?_eq_getElem hi']) m hm
            exact ⟨vs, by simpa using hvs⟩
        · cases h
      · cases h
    · cases h
theorem okWide_slice {r : Reach} {b0 : Nat} {t e : TypeId} {v : Value} (ht : P.underlying t = some (.slice e)) (hval : Value.okWide P w r b0 t v) :
    v = .slice none 0 0 ∨ ∃ a len cap, v = .slice (some a) len cap ∧ len ≤ cap ∧ a.spot = none := by
  unfold Value.okWide at hval
  rw [ht] at hval
  simp only at hval
  unfold Cell.okWide at hval
  rw [ht] at hval
  have hok : Cell.ok P w r b0 t v := by
    split at hval <;> first | (rename_i h; cases h; done) | exact hval
  unfold Cell.ok at hok
  rw [ht] at hok
  split at hok <;> first | (rename_i h; cases h; done) | skip
  all_goals first
    | exact hok.elim
    | (rename_i h _; cases h; done)
    | skip
  all_goals first
    | (exact Or.inl rfl; done)
    | skip
  all_goals (rename_i e' a len cap h; exact Or.inr ⟨a, len, cap, rfl, hok.1, hok.2.2.2.1⟩)

/-- the caller's slice: its elements' cells, which are only read -/
def RoSlc (h : Hp) (a : Option (Nat × Nat)) (n : Nat) (rows : List (List V)) (size : Nat) : Prop :=
  rows.length = n ∧ (0 < n → ∃ q, a = some (q, 0) ∧ h.get q = some (.row rows.flatten size true))

theorem Sat.roAlloc {B : Nat} {ρ : Env} {h : Hp} {w : World} (s : Sat B ρ h w) (l : Loc) {c : List V} {esz : Nat} (ho : ∀ N ρ, OSat N ρ B w l (.row c esz true)) :
    Sat B (Env.put ρ h.next l) (h.alloc (.row c esz true)) w := by
  have hx := Env.ext_put ρ h.next l
  refine ⟨fun j p hj => ?_, fun j k p q hj hk hjk hp hq => ?_, s.base⟩
  · rw [Hp.get_alloc] at hj
    split at hj
    · rename_i e; subst e; cases hj
      exact ⟨Nat.lt_succ_self _, by rw [Env.put_same]; exact ho _ _⟩
    · obtain ⟨h1, h2⟩ := s.obj j p hj
      refine ⟨Nat.lt_succ_of_lt h1, ?_⟩
      rw [hx j h1]
      exact h2.keep (Nat.le_succ _) hx rfl
  · rw [Hp.get_alloc] at hj hk
    split at hj
    · cases hj; simp [O.rw] at hp
    · split at hk
      · cases hk; simp [O.rw] at hq
      · rw [hx j (s.obj _ _ hj).1, hx k (s.obj _ _ hk).1]
        exact s.sep _ _ _ _ hj hk hjk hp hq

theorem Sat.skip {B : Nat} {ρ : Env} {h : Hp} {w : World} (s : Sat B ρ h w) (l : Loc) : Sat B (Env.put ρ h.next l) ⟨h.tr, h.next + 1⟩ w := by
  have hx := Env.ext_put ρ h.next l
  refine ⟨fun j p hj => ?_, fun j k p q hj hk hjk hp hq => ?_, s.base⟩
  · have hj : h.get j = some p := hj
    obtain ⟨h1, h2⟩ := s.obj j p hj
    refine ⟨Nat.lt_succ_of_lt h1, ?_⟩
    rw [hx j h1]
    exact h2.keep (Nat.le_succ _) hx rfl
  · have hj : h.get j = some p := hj
    have hk : h.get k = some q := hk
    rw [hx j (s.obj _ _ hj).1, hx k (s.obj _ _ hk).1]
    exact s.sep _ _ _ _ hj hk hjk hp hq

theorem flatten_get {α : Type} (sz : Nat) : ∀ (rows : List (List α)), (∀ r ∈ rows, r.length = sz) → ∀ (i j : Nat), j < sz → rows.flatten[i * sz + j]? = (rows[i]?).bind fun r => r[j]?
  | [], _, i, j, _ => by simp
  | r :: rows, h, i, j, hj => by
    have hr := h r List.mem_cons_self
    simp only [List.flatten_cons]
    cases i with
    | zero =>
      simp only [Nat.zero_mul, Nat.zero_add, List.getElem?_cons_zero, Option.bind_some]
      rw [List.getElem?_append_left (by omega)]
    | succ i =>
      rw [List.getElem?_append_right (by rw [Nat.succ_mul]; omega)]
      simp only [List.getElem?_cons_succ]
      rw [← flatten_get sz rows (fun r hr => h r (List.mem_cons_of_mem _ hr)) i j hj]
      congr 1
      rw [Nat.succ_mul]; omega

theorem flatten_len {α : Type} (sz : Nat) : ∀ (rows : List (List α)), (∀ r ∈ rows, r.length = sz) → rows.flatten.length = rows.length * sz
  | [], _ => by simp
  | r :: rows, h => by
    simp only [List.flatten_cons, List.length_append, List.length_cons, h r List.mem_cons_self, flatten_len sz rows fun r hr => h r (List.mem_cons_of_mem _ hr), Nat.succ_mul]
    omega

theorem addr_add {a : Addr} (hsp : a.spot = none) (m : Nat) : a.add m = ⟨a.block, a.off + m, none⟩ := by
  unfold Addr.add
  obtain ⟨b, o, sp⟩ := a
  cases hsp
  split
  · rename_i h; subst h; rfl
  · rfl

/-- A SLICE of plain elements that the caller hands in. -/
theorem arg_slice (hT : TTok P T) {t e : TypeId} {ti ei : TI} {zs : List V} {d : Nat} (ht : T t = some ti) (hd : ti.d = .slc e) (he : T e = some ei) (hz : flatZ T d e = some zs) (hs : ei.size = zs.length) (h0 : 0 < zs.length)
    {r : Reach} {b0 : Nat} {v : Value} {x : DataW H} {ps : List MemPlace} (hval : Value.okWide P w r b0 t v) (htr : DataW.Trod enc P w base (fun _ => true) held t v x ps) (hlt : ∀ p ∈ ps, p.block < B) (hsz : ∀ n ∈ x.weights P t, n ≤ reachBytes)
    {ρ : Env} {h : Hp} (s : Sat B ρ h w) :
    ∃ ρ' h' a n f rows, Sat B ρ' h' w ∧ Ext h.next ρ ρ' ∧ h.next ≤ h'.next ∧ (∀ j o, h.get j = some o → h'.get j = some o) ∧ VR h'.next ρ' (.slc a n f) v ∧ RoSlc h' a n rows ei.size ∧
      (∀ r ∈ rows, shpBs zs r = true ∧ ∀ v ∈ r, v.fits) ∧ n * P.bytesOf e ≤ reachBytes := by
  have hu := hT.slc ht hd
  rcases okWide_slice hu hval with rfl | ⟨a, len, cap, rfl, hle, hsp⟩
  · exact ⟨ρ, h, none, 0, true, [], s, Ext.refl _ _, Nat.le_refl _, fun _ _ h => h, ⟨rfl, rfl⟩, ⟨rfl, fun h => absurd h (by omega)⟩, by simp, by simp⟩
  · obtain ⟨fuel, htr⟩ := htr
    have hc : (Value.slice (some a) len cap).cells.toList = [.slice (some a) len cap] := rfl
    rw [hc] at htr
    rcases DataW.trod_slice hu htr with ⟨h1, _⟩ | ⟨a', len', cap', elems, rest, n, _, h1, h2, h3, h4, h5, h6, h7, h8, _⟩
    · cases h1
    · cases h1
      rw [hT.cellsOf he] at h7 h8
      obtain ⟨h9, h10⟩ := h8 rfl
      have hx' : x = .slice (elems.map (·.1)) (rest.map (·.1)) := congrArg Prod.fst h2
      have hwall : ∀ (l : List (DataW H × List MemPlace)) (i : Nat) y, l[i]? = some y → ∀ m ∈ y.1.weights P e, m ∈ DataW.weightsAll P e (l.map (·.1)) := by
        intro l
        induction l with
        | nil => intro i y h; simp at h
        | cons z l ih =>
          intro i y h m hm
          simp only [List.map_cons, DataW.weightsAll, List.mem_append]
          cases i with
          | zero => simp at h; subst h; exact .inl hm
          | succ i => exact .inr (ih i y (by simpa using h) m hm)
      have hsz' : (elems.length + rest.length) * P.bytesOf e ≤ reachBytes ∧ (∀ m ∈ DataW.weightsAll P e (elems.map (·.1)), m ≤ reachBytes) ∧ (∀ m ∈ DataW.weightsAll P e (rest.map (·.1)), m ≤ reachBytes) := by
        subst hx'
        simp only [DataW.weights, hu, List.length_map, List.mem_cons, List.mem_append] at hsz
        exact ⟨hsz _ (.inl rfl), fun m hm => hsz m (.inr (.inl hm)), fun m hm => hsz m (.inr (.inr hm))⟩
      have each : ∀ i, i < cap → ∃ cs vs, w.cells? base (a.add (i * ei.size)) ei.size = some cs ∧ Flat zs vs cs := by
        intro i hi
        have key : ∃ y, (w.cells? base (a.add (i * ei.size)) ei.size).bind (DataW.trod enc P w base (fun _ => true) held n e) = some y ∧ ∀ m ∈ y.1.weights P e, m ≤ reachBytes := by
          by_cases hl : i < len
          · exact ⟨_, (h7 i hl).trans (List.getElem?_eq_getElem (by omega)), fun m hm => hsz'.2.1 m (hwall elems i _ (List.getElem?_eq_getElem (by omega)) m hm)⟩
          · have := h10 (i - len) (by omega)
            rw [show len + (i - len) = i from by omega] at this
            exact ⟨_, this.trans (List.getElem?_eq_getElem (by omega)), fun m hm => hsz'.2.2 m (hwall rest (i - len) _ (List.getElem?_eq_getElem (by omega)) m hm)⟩
        obtain ⟨y, hy, hyw⟩ := key
        rw [Option.bind_eq_some_iff] at hy
        obtain ⟨cs, h11, h12⟩ := hy
        obtain ⟨vs, hv⟩ := trod_flat hT d e zs hz _ _ _ h12 hyw
        exact ⟨cs, vs, h11, hv⟩
      by_cases hcap : cap = 0
      · subst hcap
        obtain rfl : len = 0 := by omega
        refine ⟨Env.put ρ h.next ⟨a.block, 0, 0, 0⟩, ⟨h.tr, h.next + 1⟩, some (h.next, 0), 0, true, [], s.skip _, Env.ext_put _ _ _, Nat.le_succ _, fun _ _ h => h, ⟨Nat.lt_succ_self _, a, 0, rfl, ?_, hsp, Nat.le_refl _, fun _ => rfl, fun h => absurd h (by omega)⟩, ⟨rfl, fun h => absurd h (by omega)⟩, by simp, by simp⟩
        rw [Env.put_same]
      · have hb : a.block < B := by
          refine hlt (.cell a.block (a.off + 0)) ?_
          injection h2 with h2 h2'
          rw [h2']
          apply List.mem_append_left
          unfold MemPlace.row
          refine List.mem_map.2 ⟨0, List.mem_range.2 ?_, rfl⟩
          rw [hT.cellsOf he]
          have : 0 < elems.length + rest.length := by omega
          exact Nat.mul_pos this (by omega)
        let rowOf : Nat → List V := fun i => if hi : i < cap then (each i hi).choose_spec.choose else []
        have hrow : ∀ i (hi : i < cap), Flat zs (rowOf i) (each i hi).choose := by
          intro i hi
          simp only [rowOf, dif_pos hi]
          exact (each i hi).choose_spec.choose_spec.2
        have hcells : ∀ i (hi : i < cap) j, j < ei.size → w.cell? (a.add (i * ei.size + j)) = (each i hi).choose[j]? := by
          intro i hi j hj
          have := (World.cells?_some (each i hi).choose_spec.choose_spec.1).2.2 j hj
          rw [← this, addr_add hsp, addr_add hsp, addr_add rfl, Nat.add_assoc]
        -- the block
        have hcell0 : ∃ C el fr, w.heap[a.block]? = some (.cells C el fr) := by
          have := hcells 0 (by omega) 0 (by omega)
          have hl := (hrow 0 (by omega)).length
          have h13 : w.cell? (a.add 0) = some ((each 0 (by omega)).choose[0]'(by omega)) := by
            rw [show 0 * ei.size + 0 = 0 from by omega] at this
            rw [this]; exact List.getElem?_eq_getElem (by omega)
          unfold World.cell? at h13
          split at h13
          · rename_i C el fr hh; rw [addr_add hsp] at hh; exact ⟨C, el, fr, hh⟩
          · cases h13
        obtain ⟨C, el, fr, hC⟩ := hcell0
        have hget : ∀ i (hi : i < cap) j, j < ei.size → C[a.off + (i * ei.size + j)]? = (each i hi).choose[j]? := by
          intro i hi j hj
          rw [← hcells i hi j hj, addr_add hsp]
          simp [World.cell?, hC]
        have hsize : a.off + cap * ei.size ≤ C.size := by
          have := hget (cap - 1) (by omega) (ei.size - 1) (by omega)
          have hl := (hrow (cap - 1) (by omega)).length
          rw [List.getElem?_eq_getElem (by omega)] at this
          have h14 := (Array.getElem?_eq_some_iff.1 this).1
          have : (cap - 1) * ei.size + (ei.size - 1) + 1 = cap * ei.size := by
            obtain ⟨c, rfl⟩ : ∃ c, cap = c + 1 := ⟨cap - 1, by omega⟩
            simp only [Nat.add_sub_cancel, Nat.succ_mul]; omega
          omega
        have hrl : ∀ r ∈ (List.range len).map rowOf, r.length = ei.size := by
          intro r hr
          obtain ⟨i, hi, rfl⟩ := List.mem_map.1 hr
          rw [shpBs_length (hrow i (by have := List.mem_range.1 hi; omega)).shp, hs]
        have hlen : ((List.range len).map rowOf).flatten.length = len * ei.size := by rw [flatten_len _ _ hrl]; simp
        have ho : ∀ N ρ, OSat N ρ B w ⟨a.block, a.off, cap * ei.size, ei.size⟩ (.row ((List.range len).map rowOf).flatten ei.size true) := by
          intro N ρ
          refine ⟨rfl, C, el, fr, hC, hsize, by rw [hlen]; exact Nat.mul_le_mul_right _ hle, ?_, ?_, fun _ => hb, fun h => by cases h⟩
          · intro j v hj
            have hjl : j < len * ei.size := by rw [← hlen]; exact (List.getElem?_eq_some_iff.1 hj).1
            have hpos : 0 < ei.size := by omega
            have hdiv : j / ei.size < len := Nat.div_lt_of_lt_mul (by rw [Nat.mul_comm]; exact hjl)
            have hmod : j % ei.size < ei.size := Nat.mod_lt _ hpos
            have hj' : j = j / ei.size * ei.size + j % ei.size := by rw [Nat.mul_comm]; exact (Nat.div_add_mod _ _).symm
            rw [hj', flatten_get _ _ hrl _ _ hmod] at hj
            simp only [List.getElem?_map, List.getElem?_range hdiv, Option.map_some, Option.bind_some] at hj
            obtain ⟨x, hx, hv⟩ := ((hrow (j / ei.size) (by omega)).rel N ρ).get hj
            refine ⟨x, ?_, hv⟩
            rw [← hx, ← hget (j / ei.size) (by omega) (j % ei.size) hmod, ← hj']
          · intro v hv
            obtain ⟨r, hr, hv⟩ := List.mem_flatten.1 hv
            obtain ⟨i, hi, rfl⟩ := List.mem_map.1 hr
            exact (hrow i (by have := List.mem_range.1 hi; omega)).one v hv
        refine ⟨Env.put ρ h.next ⟨a.block, a.off, cap * ei.size, ei.size⟩, h.alloc (.row ((List.range len).map rowOf).flatten ei.size true), some (h.next, 0), len, false, (List.range len).map rowOf,
          s.roAlloc _ ho, Env.ext_put _ _ _, Nat.le_succ _, fun j o hj => ?_, ⟨Nat.lt_succ_self _, a, cap, rfl, ?_, hsp, hle, fun h => by (cases h), fun _ => ?_⟩, ⟨by simp, fun _ => ⟨h.next, rfl, ?_⟩⟩, ?_, ?_⟩
        · rw [Hp.get_alloc, if_neg (by have := (s.obj j o hj).1; omega)]; exact hj
        · rw [Env.put_same]
        · rw [Env.put_same]; exact ⟨by simp, by simp⟩
        · rw [Hp.get_alloc, if_pos rfl]
        · intro r hr
          obtain ⟨i, hi, rfl⟩ := List.mem_map.1 hr
          have hi' : i < cap := by have := List.mem_range.1 hi; omega
          exact ⟨(hrow i hi').shp, (hrow i hi').fits⟩
        · refine Nat.le_trans (Nat.mul_le_mul_right _ ?_) hsz'.1
          omega
end
end Go.Vex
