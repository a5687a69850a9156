/-
  VEX, part X: a law's arguments: what the caller's data are, as the abstract heap has them.
-/
import Derived.Test.YtkfnokgfgcfldaaGreatVexW
import Derived.ChangeArms
import Derived.DataReads
import Derived.SizedLaws
set_option linter.unusedSimpArgs false
set_option linter.unusedVariables false
namespace Go.Vex
open Go.RowKit (Below)

/-- within its kind's bounds -/
def V.fits : V → Prop
  | .int k n => k.min ≤ n ∧ n ≤ k.max
  | .str s => s.length ≤ reachBytes
  | _ => True

def flatZs (f : TypeId → Option (List V)) (T : TT) : Nat → List (Nat × TypeId × Bool) → Option (List V)
  | _, [] => some []
  | o, (off, ft, _) :: fs => match f ft, T ft with
    | some l, some fi => bif Nat.beq off o && Nat.beq l.length fi.size then match flatZs f T (o + l.length) fs with
      | some r => some (l ++ r)
      | none => none
      else none
    | _, _ => none

/-- the cells of a type made of numbers, strings, truth values and structs of them -/
def flatZ (T : TT) : Nat → TypeId → Option (List V)
  | 0, _ => none
  | d + 1, t => match T t with
    | some ti => match ti.d with
      | .int k => some [.int k 0]
      | .str => some [.str []]
      | .bool => some [.bool false]
      | .struct fs => match flatZs (flatZ T d) T 0 fs with
        | some l => bif Nat.beq l.length ti.size then some l else none
        | none => none
      | _ => none
    | none => none

/-- cells of known forms, within bounds, that lead nowhere -/
structure Flat (zs vs : List V) (cs : List Value) : Prop where
  shp : shpBs zs vs = true
  rel : ∀ N ρ, VRs N ρ vs cs
  fits : ∀ v ∈ vs, v.fits
  one : ∀ v ∈ vs, v.one = true

theorem shpBs_append : ∀ {zs ys vs us : List V}, shpBs zs vs = true → shpBs ys us = true → shpBs (zs ++ ys) (vs ++ us) = true
  | [], _, [], _, _, h => h
  | [], _, _ :: _, _, h, _ => by simp [shpBs] at h
  | _ :: _, _, [], _, h, _ => by simp [shpBs] at h
  | z :: zs, _, v :: vs, _, h, h' => by
    simp only [shpBs, Bool.and_eq_true] at h
    simp only [List.cons_append, shpBs, Bool.and_eq_true]
    exact ⟨h.1, shpBs_append h.2 h'⟩

theorem shpBs_length : ∀ {zs vs : List V}, shpBs zs vs = true → vs.length = zs.length
  | [], [], _ => rfl
  | [], _ :: _, h => by simp [shpBs] at h
  | _ :: _, [], h => by simp [shpBs] at h
  | z :: zs, v :: vs, h => by
    simp only [shpBs, Bool.and_eq_true] at h
    simp [shpBs_length h.2]

theorem Flat.append {zs ys vs us : List V} {cs ds : List Value} (h : Flat zs vs cs) (h' : Flat ys us ds) : Flat (zs ++ ys) (vs ++ us) (cs ++ ds) :=
  ⟨shpBs_append h.shp h'.shp, fun N ρ => (h.rel N ρ).append (h'.rel N ρ), fun v hv => (List.mem_append.1 hv).elim (h.fits v) (h'.fits v), fun v hv => (List.mem_append.1 hv).elim (h.one v) (h'.one v)⟩

theorem Flat.length {zs vs : List V} {cs : List Value} (h : Flat zs vs cs) : cs.length = zs.length := by
  have h1 := (h.rel 0 fun _ => ⟨0, 0, 0, 0⟩).length
  rw [h1, shpBs_length h.shp]

section
variable {P : Program} {T : TT} {H : Type} {enc : TypeId × Value → H} {w : World} {base B : Nat} {sp : Nat → Bool} {held : Bool}

theorem TTok.cellsOf (hT : TTok P T) {t : TypeId} {ti : TI} (h : T t = some ti) : P.cellsOf t = ti.size := by
  obtain ⟨i, d, h1, h2, h3, h4, _⟩ := hT.ok t ti h
  simp [Program.cellsOf, h1, h4]

theorem trod_flats (hT : TTok P T) {g : TypeId → Option (List V)} (IH : ∀ (t : TypeId) (zs : List V), g t = some zs → ∀ (fuel : Nat) (cs : List Value) (x : DataW H × List MemPlace), DataW.trod enc P w base sp held fuel t cs = some x → (∀ n ∈ x.1.weights P t, n ≤ reachBytes) → ∃ vs, Flat zs vs cs) : ∀ (o : Nat) (fs : List (Nat × TypeId × Bool)) (zs : List V), flatZs g T o fs = some zs → ∀ (gs : List Field), fs = gs.map (fun f => (f.offset, f.type, f.name != "_")) →
    ∀ (n : Nat) (cs : List Value), cs.length = o + zs.length → (∀ (i : Nat) (f : Field), gs[i]? = some f → ∃ x : DataW H × List MemPlace, DataW.trod enc P w base sp held n f.type ((cs.drop f.offset).take (P.cellsOf f.type)) = some x ∧ ∀ n ∈ x.1.weights P f.type, n ≤ reachBytes) →
    ∃ vs, Flat zs vs (cs.drop o)
  | o, [], zs, h => by
    intro gs hg n cs hc hf
    simp only [flatZs] at h
    cases h
    refine ⟨[], rfl, fun N ρ => ?_, by simp, by simp⟩
    rw [List.drop_of_length_le (by simp at hc; omega)]
    rfl
  | o, (off, ft, nm) :: fs, zs, h => by
    intro gs hg n cs hc hf
    simp only [flatZs] at h
    split at h
    · rename_i l fi hl hfi
      cases hb : (Nat.beq off o && Nat.beq l.length fi.size) with
      | false => rw [hb] at h; cases h
      | true =>
        rw [hb] at h
        simp only [cond_true] at h
        split at h
        · rename_i r hr
          cases h
          simp only [Bool.and_eq_true, nbeq] at hb
          cases gs with
          | nil => simp at hg
          | cons g' gs =>
            simp only [List.map_cons, List.cons.injEq, Prod.mk.injEq] at hg
            obtain ⟨⟨rfl, rfl, _⟩, hg⟩ := hg
            obtain ⟨x, hx, hxw⟩ := hf 0 g' rfl
            obtain ⟨rfl, hls⟩ := hb
            rw [hT.cellsOf hfi, ← hls] at hx
            obtain ⟨vs, hv⟩ := IH _ _ hl n _ _ hx hxw
            obtain ⟨us, hu⟩ := trod_flats hT IH _ fs r hr gs hg n cs (by simp at hc; omega) fun i f hi => hf (i + 1) f (by simpa using hi)
            refine ⟨vs ++ us, ?_⟩
            have := hv.append hu
            rw [← List.drop_drop, List.take_append_drop] at this
            exact this
        · cases h
    · cases h

theorem trod_flat (hT : TTok P T) : ∀ (d : Nat) (t : TypeId) (zs : List V), flatZ T d t = some zs → ∀ (fuel : Nat) (cs : List Value) (x : DataW H × List MemPlace), DataW.trod enc P w base sp held fuel t cs = some x → (∀ n ∈ x.1.weights P t, n ≤ reachBytes) → ∃ vs, Flat zs vs cs
  | 0, t, zs, h => by simp [flatZ] at h
  | d + 1, t, zs, h => by
    intro fuel cs x hx hwt
    simp only [flatZ] at h
    split at h
    · rename_i ti ht
      split at h
      · rename_i k hd
        cases h
        obtain ⟨n, rfl, _, hw⟩ := DataW.trod_int (hT.int ht hd) hx
        simp only [Lit.wf, Bool.and_eq_true, decide_eq_true_eq] at hw
        exact ⟨[.int k n], by simp [shpBs, shpB], fun N ρ => ⟨_, _, rfl, rfl, rfl⟩, by simpa [V.fits] using hw, by simp [V.one]⟩
      · rename_i hd
        cases h
        obtain ⟨s, rfl, rfl, _⟩ := DataW.trod_string (hT.str ht hd) hx
        have hw : s.data.toList.length ≤ reachBytes := hwt _ (by simp [DataW.weights])
        exact ⟨[.str s.data.toList], by simp [shpBs, shpB], fun N ρ => ⟨_, _, rfl, rfl, rfl⟩, by simpa [V.fits] using hw, by simp [V.one]⟩
      · rename_i hd
        cases h
        obtain ⟨b, rfl, _⟩ := DataW.trod_bool (hT.bool ht hd) hx
        exact ⟨[.bool b], by simp [shpBs, shpB], fun N ρ => ⟨_, _, rfl, rfl, rfl⟩, by simp [V.fits], by simp [V.one]⟩
      · rename_i fs hd
        split at h
        · rename_i l hl
          cases hb : Nat.beq l.length ti.size with
          | false => rw [hb] at h; cases h
          | true =>
            rw [hb] at h
            cases h
            obtain ⟨gs, hu, hfs⟩ := hT.struct ht hd
            obtain ⟨xs, n, _, rfl, hlen, hxl, hf⟩ := DataW.trod_struct hu hx
            rw [hT.cellsOf ht] at hlen
            obtain ⟨vs, hvs⟩ := trod_flats hT (trod_flat hT d) 0 fs zs hl gs.toList hfs n cs (by rw [hlen, ← Nat.eq_of_beq_eq_true hb]; omega) fun i f hi => by
              have := hf i f (by simpa using hi)
              have hi' : i < xs.length := by rw [hxl]; simpa using (List.getElem?_eq_some_iff.1 hi).1
              refine ⟨xs[i], by rw [this]; exact List.getElem?_eq_getElem hi', fun m hm => hwt m ?_⟩
              simp only [DataW.weights, hu]
              exact DataW.weights_mem_each (j := i) (t := f.type) (d := xs[i].1) (by simp [show gs[i]? = some f by simpa using hi]) (by simp [List.getElem?_eq_getElem hi']) m hm
            exact ⟨vs, by simpa using hvs⟩
        · cases h
      · cases h
    · cases h
theorem okWide_slice {r : Reach} {b0 : Nat} {t e : TypeId} {v : Value} (ht : P.underlying t = some (.slice e)) (hval : Value.okWide P w r b0 t v) :
    v = .slice none 0 0 ∨ ∃ a len cap, v = .slice (some a) len cap ∧ len ≤ cap ∧ a.spot = none := by
  unfold Value.okWide at hval
  rw [ht] at hval
  simp only at hval
  unfold Cell.okWide at hval
  rw [ht] at hval
  have hok : Cell.ok P w r b0 t v := by
    split at hval <;> first | (rename_i h; cases h; done) | exact hval
  unfold Cell.ok at hok
  rw [ht] at hok
  split at hok <;> first | (rename_i h; cases h; done) | skip
  all_goals first
    | exact hok.elim
    | (rename_i h _; cases h; done)
    | skip
  all_goals first
    | (exact Or.inl rfl; done)
    | skip
  all_goals (rename_i e' a len cap h; exact Or.inr ⟨a, len, cap, rfl, hok.1, hok.2.2.2.1⟩)

/-- the caller's slice: its elements' cells, which are only read -/
def RoSlc (h : Hp) (a : Option (Nat × Nat)) (n : Nat) (rows : List (List V)) (size : Nat) : Prop :=
  rows.length = n ∧ (0 < n → ∃ q, a = some (q, 0) ∧ h.get q = some (.row rows.flatten size true))

theorem Sat.roAlloc {B : Nat} {ρ : Env} {h : Hp} {w : World} (s : Sat B ρ h w) (l : Loc) {c : List V} {esz : Nat} (ho : ∀ N ρ, OSat N ρ B w l (.row c esz true)) :
    Sat B (Env.put ρ h.next l) (h.alloc (.row c esz true)) w := by
  have hx := Env.ext_put ρ h.next l
  refine ⟨fun j p hj => ?_, fun j k p q hj hk hjk hp hq => ?_, s.base⟩
  · rw [Hp.get_alloc] at hj
    split at hj
    · rename_i e; subst e; cases hj
      exact ⟨Nat.lt_succ_self _, by rw [Env.put_same]; exact ho _ _⟩
    · obtain ⟨h1, h2⟩ := s.obj j p hj
      refine ⟨Nat.lt_succ_of_lt h1, ?_⟩
      rw [hx j h1]
      exact h2.keep (Nat.le_succ _) hx rfl
  · rw [Hp.get_alloc] at hj hk
    split at hj
    · cases hj; simp [O.rw] at hp
    · split at hk
      · cases hk; simp [O.rw] at hq
      · rw [hx j (s.obj _ _ hj).1, hx k (s.obj _ _ hk).1]
        exact s.sep _ _ _ _ hj hk hjk hp hq

theorem Sat.skip {B : Nat} {ρ : Env} {h : Hp} {w : World} (s : Sat B ρ h w) (l : Loc) : Sat B (Env.put ρ h.next l) ⟨h.tr, h.next + 1⟩ w := by
  have hx := Env.ext_put ρ h.next l
  refine ⟨fun j p hj => ?_, fun j k p q hj hk hjk hp hq => ?_, s.base⟩
  · have hj : h.get j = some p := hj
    obtain ⟨h1, h2⟩ := s.obj j p hj
    refine ⟨Nat.lt_succ_of_lt h1, ?_⟩
    rw [hx j h1]
    exact h2.keep (Nat.le_succ _) hx rfl
  · have hj : h.get j = some p := hj
    have hk : h.get k = some q := hk
    rw [hx j (s.obj _ _ hj).1, hx k (s.obj _ _ hk).1]
    exact s.sep _ _ _ _ hj hk hjk hp hq

theorem flatten_get {α : Type} (sz : Nat) : ∀ (rows : List (List α)), (∀ r ∈ rows, r.length = sz) → ∀ (i j : Nat), j < sz → rows.flatten[i * sz + j]? = (rows[i]?).bind fun r => r[j]?
  | [], _, i, j, _ => by simp
  | r :: rows, h, i, j, hj => by
    have hr := h r List.mem_cons_self
    simp only [List.flatten_cons]
    cases i with
    | zero =>
      simp only [Nat.zero_mul, Nat.zero_add, List.getElem?_cons_zero, Option.bind_some]
      rw [List.getElem?_append_left (by omega)]
    | succ i =>
      rw [List.getElem?_append_right (by rw [Nat.succ_mul]; omega)]
      simp only [List.getElem?_cons_succ]
      rw [← flatten_get sz rows (fun r hr => h r (List.mem_cons_of_mem _ hr)) i j hj]
      congr 1
      rw [Nat.succ_mul]; omega

theorem flatten_len {α : Type} (sz : Nat) : ∀ (rows : List (List α)), (∀ r ∈ rows, r.length = sz) → rows.flatten.length = rows.length * sz
  | [], _ => by simp
  | r :: rows, h => by
    simp only [List.flatten_cons, List.length_append, List.length_cons, h r List.mem_cons_self, flatten_len sz rows fun r hr => h r (List.mem_cons_of_mem _ hr), Nat.succ_mul]
    omega

theorem addr_add {a : Addr} (hsp : a.spot = none) (m : Nat) : a.add m = ⟨a.block, a.off + m, none⟩ := by
  unfold Addr.add
  obtain ⟨b, o, sp⟩ := a
  cases hsp
  split
  · rename_i h; subst h; rfl
  · rfl

/-- a slice's cells, opened -/
theorem slice_open (hT : TTok P T) {t e : TypeId} {ti ei : TI} (ht : T t = some ti) (hd : ti.d = .slc e) (he : T e = some ei) (h0 : 0 < ei.size)
    {fuel : Nat} {vs : List Value} {x : DataW H} {ps : List MemPlace} (htr : DataW.trod enc P w base (fun _ => true) held fuel t vs = some (x, ps)) (hlt : ∀ p ∈ ps, p.block < B) (hsz : ∀ n ∈ x.weights P t, n ≤ reachBytes) :
    vs = [.slice none 0 0] ∨ ∃ a len cap, vs = [.slice (some a) len cap] ∧ len ≤ cap ∧ (0 < cap → a.spot = none ∧ a.block < B) ∧ cap * P.bytesOf e ≤ reachBytes ∧
      ∀ i, i < cap → ∃ n cs y, w.cells? base (a.add (i * ei.size)) ei.size = some cs ∧ DataW.trod enc P w base (fun _ => true) held n e cs = some y ∧ (∀ p ∈ y.2, p.block < B) ∧ ∀ m ∈ y.1.weights P e, m ≤ reachBytes := by
  have hu := hT.slc ht hd
  rcases DataW.trod_slice hu htr with ⟨h1, _⟩ | ⟨a, len, cap, elems, rest, n, _, h1, h2, h3, h4, h5, h6, h7, h8, _⟩
  · exact .inl h1
  · refine .inr ⟨a, len, cap, h1, h4, ?_⟩
    rw [hT.cellsOf he] at h7 h8
    obtain ⟨h9, h10⟩ := h8 rfl
    have hx' : x = .slice (elems.map (·.1)) (rest.map (·.1)) := congrArg Prod.fst h2
    have hps := congrArg Prod.snd h2
    simp only at hps
    have hwall : ∀ (l : List (DataW H × List MemPlace)) (i : Nat) y, l[i]? = some y → ∀ m ∈ y.1.weights P e, m ∈ DataW.weightsAll P e (l.map (·.1)) := by
      intro l
      induction l with
      | nil => intro i y h; simp at h
      | cons z l ih =>
        intro i y h m hm
        simp only [List.map_cons, DataW.weightsAll, List.mem_append]
        cases i with
        | zero => simp at h; subst h; exact .inl hm
        | succ i => exact .inr (ih i y (by simpa using h) m hm)
    have hsz' : (elems.length + rest.length) * P.bytesOf e ≤ reachBytes ∧ (∀ m ∈ DataW.weightsAll P e (elems.map (·.1)), m ≤ reachBytes) ∧ (∀ m ∈ DataW.weightsAll P e (rest.map (·.1)), m ≤ reachBytes) := by
      subst hx'
      simp only [DataW.weights, hu, List.length_map, List.mem_cons, List.mem_append] at hsz
      exact ⟨hsz _ (.inl rfl), fun m hm => hsz m (.inr (.inl hm)), fun m hm => hsz m (.inr (.inr hm))⟩
    have each : ∀ i, i < cap → ∃ cs y, w.cells? base (a.add (i * ei.size)) ei.size = some cs ∧ DataW.trod enc P w base (fun _ => true) held n e cs = some y ∧ y ∈ elems ++ rest ∧ ∀ m ∈ y.1.weights P e, m ≤ reachBytes := by
      intro i hi
      have key : ∃ y, (w.cells? base (a.add (i * ei.size)) ei.size).bind (DataW.trod enc P w base (fun _ => true) held n e) = some y ∧ y ∈ elems ++ rest ∧ ∀ m ∈ y.1.weights P e, m ≤ reachBytes := by
        by_cases hl : i < len
        · exact ⟨_, (h7 i hl).trans (List.getElem?_eq_getElem (by omega)), List.mem_append_left _ (List.getElem_mem _), fun m hm => hsz'.2.1 m (hwall elems i _ (List.getElem?_eq_getElem (by omega)) m hm)⟩
        · have := h10 (i - len) (by omega)
          rw [show len + (i - len) = i from by omega] at this
          exact ⟨_, this.trans (List.getElem?_eq_getElem (by omega)), List.mem_append_right _ (List.getElem_mem _), fun m hm => hsz'.2.2 m (hwall rest (i - len) _ (List.getElem?_eq_getElem (by omega)) m hm)⟩
      obtain ⟨y, hy, hym, hyw⟩ := key
      rw [Option.bind_eq_some_iff] at hy
      obtain ⟨cs, h11, h12⟩ := hy
      exact ⟨cs, y, h11, h12, hym, hyw⟩
    have hcl : elems.length + rest.length = cap := by omega
    refine ⟨fun hc => ⟨?_, ?_⟩, by rw [← hcl]; exact hsz'.1, fun i hi => ?_⟩
    · obtain ⟨cs, y, g1, _⟩ := each 0 hc
      have := (World.cells?_some g1)
      have h13 := this.2.2 0 h0
      have hl : cs.length = ei.size := this.2.1
      rw [show 0 * ei.size = 0 from by omega, show a.add 0 = a from if_pos rfl, show a.add 0 = a from if_pos rfl, List.getElem?_eq_getElem (by omega)] at h13
      unfold World.cell? at h13
      split at h13
      · cases hs : a.spot with
        | none => rfl
        | some _ => rw [hs] at h13; simp at h13
      · cases h13
    · refine hlt (.cell a.block (a.off + 0)) ?_
      rw [hps]
      apply List.mem_append_left
      unfold MemPlace.row
      refine List.mem_map.2 ⟨0, List.mem_range.2 ?_, rfl⟩
      rw [hT.cellsOf he, hcl]
      exact Nat.mul_pos hc h0
    · obtain ⟨cs, y, g1, g2, g3, g4⟩ := each i hi
      refine ⟨n, cs, y, g1, g2, fun p hp => hlt p ?_, g4⟩
      rw [hps]
      exact List.mem_append_right _ (List.mem_flatMap.2 ⟨y, g3, hp⟩)

/-- a slice of the caller's, of which the elements' cells are known, comes to be an object -/
theorem slice_put {size a len cap : Nat} {ad : Addr} {rows : List (List V)} (h0 : 0 < size) (hle : len ≤ cap) (hsb : 0 < cap → ad.spot = none ∧ ad.block < B) {ρ : Env} {h : Hp} (s : Sat B ρ h w)
    (hrl : rows.length = len) (hcells : ∀ i, i < cap → ∃ cs, w.cells? base (ad.add (i * size)) size = some cs ∧ ∀ r, rows[i]? = some r → VRs h.next ρ r cs ∧ ∀ v ∈ r, v.one = true) :
    ∃ ρ' h' b f, Sat B ρ' h' w ∧ Ext h.next ρ ρ' ∧ h.next ≤ h'.next ∧ (∀ j o, h.get j = some o → h'.get j = some o) ∧ VR h'.next ρ' (.slc b len f) (.slice (some ad) len cap) ∧ RoSlc h' b len rows size := by
  by_cases hcap : cap = 0
  · subst hcap
    obtain rfl : len = 0 := by omega
    obtain rfl : rows = [] := List.length_eq_zero_iff.1 hrl
    refine ⟨Env.put ρ h.next ⟨ad.block, 0, 0, 0⟩, ⟨h.tr, h.next + 1⟩, some (h.next, 0), true, s.skip _, Env.ext_put _ _ _, Nat.le_succ _, fun _ _ h => h, ⟨Nat.lt_succ_self _, ad, 0, rfl, ?_, fun h => absurd h (by omega), Nat.le_refl _, fun _ => rfl, fun h => absurd h (by omega)⟩, ⟨rfl, fun h => absurd h (by omega)⟩⟩
    rw [Env.put_same]
  · obtain ⟨hsp, hb⟩ := hsb (by omega)
    have hcs : ∀ i (hi : i < cap) j, j < size → w.cell? (ad.add (i * size + j)) = (hcells i hi).choose[j]? := by
      intro i hi j hj
      have := (World.cells?_some (hcells i hi).choose_spec.1).2.2 j hj
      rw [← this, addr_add hsp, addr_add hsp, addr_add rfl, Nat.add_assoc]
    have hcl : ∀ i (hi : i < cap), (hcells i hi).choose.length = size := fun i hi => (World.cells?_some (hcells i hi).choose_spec.1).2.1
    have hcell0 : ∃ C el fr, w.heap[ad.block]? = some (.cells C el fr) := by
      have := hcs 0 (by omega) 0 h0
      have hl := hcl 0 (by omega)
      have h13 : w.cell? (ad.add 0) = some ((hcells 0 (by omega)).choose[0]'(by omega)) := by
        rw [show 0 * size + 0 = 0 from by omega] at this
        rw [this]; exact List.getElem?_eq_getElem (by omega)
      unfold World.cell? at h13
      split at h13
      · rename_i C el fr hh; rw [addr_add hsp] at hh; exact ⟨C, el, fr, hh⟩
      · cases h13
    obtain ⟨C, el, fr, hC⟩ := hcell0
    have hget : ∀ i (hi : i < cap) j, j < size → C[ad.off + (i * size + j)]? = (hcells i hi).choose[j]? := by
      intro i hi j hj
      rw [← hcs i hi j hj, addr_add hsp]
      simp [World.cell?, hC]
    have hsize : ad.off + cap * size ≤ C.size := by
      have := hget (cap - 1) (by omega) (size - 1) (by omega)
      have hl := hcl (cap - 1) (by omega)
      rw [List.getElem?_eq_getElem (by omega)] at this
      have h14 := (Array.getElem?_eq_some_iff.1 this).1
      have : (cap - 1) * size + (size - 1) + 1 = cap * size := by
        obtain ⟨c, rfl⟩ : ∃ c, cap = c + 1 := ⟨cap - 1, by omega⟩
        simp only [Nat.add_sub_cancel, Nat.succ_mul]; omega
      omega
    have hrow : ∀ i (hi : i < cap) (r : List V), rows[i]? = some r → VRs h.next ρ r (hcells i hi).choose ∧ ∀ v ∈ r, v.one = true := fun i hi r hr => (hcells i hi).choose_spec.2 r hr
    have hrz : ∀ r ∈ rows, r.length = size := by
      intro r hr
      obtain ⟨i, hi⟩ := List.getElem?_of_mem hr
      have hi' : i < cap := by have := (List.getElem?_eq_some_iff.1 hi).1; omega
      rw [← (hrow i hi' r hi).1.length, hcl i hi']
    have hlen : rows.flatten.length = len * size := by rw [flatten_len _ _ hrz, hrl]
    have hx := Env.ext_put ρ h.next ⟨ad.block, ad.off, cap * size, size⟩
    refine ⟨Env.put ρ h.next ⟨ad.block, ad.off, cap * size, size⟩, h.alloc (.row rows.flatten size true), some (h.next, 0), false, ?_, hx, Nat.le_succ _, fun j o hj => ?_,
      ⟨Nat.lt_succ_self _, ad, cap, rfl, ?_, fun _ => hsp, hle, fun h => by (cases h), fun _ => ?_⟩, ⟨hrl, fun _ => ⟨h.next, rfl, by rw [Hp.get_alloc, if_pos rfl]⟩⟩⟩
    · refine ⟨fun j p hj => ?_, fun j k p q hj hk hjk hp hq => ?_, s.base⟩
      · rw [Hp.get_alloc] at hj
        split at hj
        · rename_i e; subst e; cases hj
          refine ⟨Nat.lt_succ_self _, ?_⟩
          rw [Env.put_same]
          refine ⟨rfl, C, el, fr, hC, hsize, by rw [hlen]; exact Nat.mul_le_mul_right _ hle, ?_, ?_, fun _ => hb, fun h => by cases h⟩
          · intro j v hj
            have hjl : j < len * size := by rw [← hlen]; exact (List.getElem?_eq_some_iff.1 hj).1
            have hdiv : j / size < len := Nat.div_lt_of_lt_mul (by rw [Nat.mul_comm]; exact hjl)
            have hmod : j % size < size := Nat.mod_lt _ h0
            have hj' : j = j / size * size + j % size := by rw [Nat.mul_comm]; exact (Nat.div_add_mod _ _).symm
            rw [hj', flatten_get _ _ hrz _ _ hmod] at hj
            obtain ⟨r, hr, hv⟩ := Option.bind_eq_some_iff.1 hj
            obtain ⟨x, hx', hv⟩ := ((hrow (j / size) (by omega) r hr).1).get hv
            refine ⟨x, ?_, hv.ext (Nat.le_succ _) hx⟩
            rw [← hx', ← hget (j / size) (by omega) (j % size) hmod, ← hj']
          · intro v hv
            obtain ⟨r, hr, hv⟩ := List.mem_flatten.1 hv
            obtain ⟨i, hi⟩ := List.getElem?_of_mem hr
            exact (hrow i (by have := (List.getElem?_eq_some_iff.1 hi).1; omega) r hi).2 v hv
        · obtain ⟨h1, h2⟩ := s.obj j p hj
          refine ⟨Nat.lt_succ_of_lt h1, ?_⟩
          rw [hx j h1]
          exact h2.keep (Nat.le_succ _) hx rfl
      · rw [Hp.get_alloc] at hj hk
        split at hj
        · cases hj; simp [O.rw] at hp
        · split at hk
          · cases hk; simp [O.rw] at hq
          · rw [hx j (s.obj _ _ hj).1, hx k (s.obj _ _ hk).1]
            exact s.sep _ _ _ _ hj hk hjk hp hq
    · rw [Hp.get_alloc, if_neg (by have := (s.obj j o hj).1; omega)]; exact hj
    · rw [Env.put_same]
    · rw [Env.put_same]; exact ⟨by simp, by simp⟩

/-- a slice of plain elements that stands in one cell -/
theorem cell_slice (hT : TTok P T) {t e : TypeId} {ti ei : TI} {zs : List V} {d : Nat} (ht : T t = some ti) (hd : ti.d = .slc e) (he : T e = some ei) (hz : flatZ T d e = some zs) (hs : ei.size = zs.length) (h0 : 0 < zs.length)
    {fuel : Nat} {cs : List Value} {x : DataW H} {ps : List MemPlace} (htr : DataW.trod enc P w base (fun _ => true) held fuel t cs = some (x, ps)) (hlt : ∀ p ∈ ps, p.block < B) (hsz : ∀ n ∈ x.weights P t, n ≤ reachBytes) :
    ∃ v, cs = [v] ∧ ∀ {ρ : Env} {h : Hp}, Sat B ρ h w →
    ∃ ρ' h' a n f rows, Sat B ρ' h' w ∧ Ext h.next ρ ρ' ∧ h.next ≤ h'.next ∧ (∀ j o, h.get j = some o → h'.get j = some o) ∧ VR h'.next ρ' (.slc a n f) v ∧ RoSlc h' a n rows ei.size ∧
      (∀ r ∈ rows, shpBs zs r = true ∧ ∀ v ∈ r, v.fits) ∧ n * P.bytesOf e ≤ reachBytes := by
  rcases slice_open hT ht hd he (by omega) htr hlt hsz with rfl | ⟨a, len, cap, rfl, hle, hsb, hby, each⟩
  · exact ⟨_, rfl, fun {ρ h} s => ⟨ρ, h, none, 0, true, [], s, Ext.refl _ _, Nat.le_refl _, fun _ _ h => h, ⟨rfl, rfl⟩, ⟨rfl, fun h => absurd h (by omega)⟩, by simp, by simp⟩⟩
  · refine ⟨_, rfl, fun {ρ h} s => ?_⟩
    have each' : ∀ i, i < cap → ∃ cs vs, w.cells? base (a.add (i * ei.size)) ei.size = some cs ∧ Flat zs vs cs := fun i hi => by
      obtain ⟨n, cs, y, g1, g2, _, g4⟩ := each i hi
      obtain ⟨vs, hv⟩ := trod_flat hT d e zs hz _ _ _ g2 g4
      exact ⟨cs, vs, g1, hv⟩
    let rowOf : Nat → List V := fun i => if hi : i < cap then (each' i hi).choose_spec.choose else []
    have hrow : ∀ i (hi : i < cap), Flat zs (rowOf i) (each' i hi).choose := by
      intro i hi
      simp only [rowOf, dif_pos hi]
      exact (each' i hi).choose_spec.choose_spec.2
    obtain ⟨ρ', h', b, f, s1, s2, s3, s4, s5, s6⟩ := slice_put (a := 0) (size := ei.size) (len := len) (cap := cap) (base := base) (rows := (List.range len).map rowOf) (by omega) hle hsb s (by simp) (fun i hi => ⟨(each' i hi).choose, (each' i hi).choose_spec.choose_spec.1, fun r hr => by
      have hil : i < len := by have := (List.getElem?_eq_some_iff.1 hr).1; simpa using this
      simp only [List.getElem?_map, List.getElem?_range hil, Option.map_some, Option.some.injEq] at hr
      subst hr
      exact ⟨(hrow i hi).rel _ _, (hrow i hi).one⟩⟩)
    refine ⟨ρ', h', b, len, f, _, s1, s2, s3, s4, s5, s6, fun r hr => ?_, Nat.le_trans (Nat.mul_le_mul_right _ hle) hby⟩
    obtain ⟨i, hi, rfl⟩ := List.mem_map.1 hr
    have hi' : i < cap := by have := List.mem_range.1 hi; omega
    exact ⟨(hrow i hi').shp, (hrow i hi').fits⟩

/-- A SLICE of plain elements that the caller hands in. -/
theorem arg_slice (hT : TTok P T) {t e : TypeId} {ti ei : TI} {zs : List V} {d : Nat} (ht : T t = some ti) (hd : ti.d = .slc e) (he : T e = some ei) (hz : flatZ T d e = some zs) (hs : ei.size = zs.length) (h0 : 0 < zs.length)
    {r : Reach} {b0 : Nat} {v : Value} {x : DataW H} {ps : List MemPlace} (hval : Value.okWide P w r b0 t v) (htr : DataW.Trod enc P w base (fun _ => true) held t v x ps) (hlt : ∀ p ∈ ps, p.block < B) (hsz : ∀ n ∈ x.weights P t, n ≤ reachBytes)
    {ρ : Env} {h : Hp} (s : Sat B ρ h w) :
    ∃ ρ' h' a n f rows, Sat B ρ' h' w ∧ Ext h.next ρ ρ' ∧ h.next ≤ h'.next ∧ (∀ j o, h.get j = some o → h'.get j = some o) ∧ VR h'.next ρ' (.slc a n f) v ∧ RoSlc h' a n rows ei.size ∧
      (∀ r ∈ rows, shpBs zs r = true ∧ ∀ v ∈ r, v.fits) ∧ n * P.bytesOf e ≤ reachBytes := by
  obtain ⟨fuel, htr⟩ := htr
  have hc : v.cells.toList = [v] := by
    rcases okWide_slice (hT.slc ht hd) hval with rfl | ⟨a, len, cap, rfl, _⟩ <;> rfl
  rw [hc] at htr
  obtain ⟨v', e1, hh⟩ := cell_slice hT ht hd he hz hs h0 htr hlt hsz
  cases e1
  exact hh s
end

/-! ### rows in which slices stand -/

inductive Z
  | p (z : V)
  | s (e : TypeId) (size : Nat) (zs : List V)

def flatNs (T : TT) (d : Nat) : Nat → List (Nat × TypeId × Bool) → Option (List Z)
  | _, [] => some []
  | o, (off, ft, _) :: fs => match T ft with
    | some fi => bif Nat.beq off o then match fi.d with
        | .slc e => match flatZ T d e, T e with
          | some zs, some ei => bif Nat.beq ei.size zs.length && Nat.blt 0 zs.length && Nat.beq fi.size 1 then match flatNs T d (o + 1) fs with
              | some r => some (.s e ei.size zs :: r)
              | none => none
            else none
          | _, _ => none
        | _ => match flatZ T d ft with
          | some l => bif Nat.beq l.length fi.size then match flatNs T d (o + l.length) fs with
              | some r => some (l.map .p ++ r)
              | none => none
            else none
          | none => none
      else none
    | none => none

def flatN (T : TT) (d : Nat) (t : TypeId) : Option (List Z) := match T t with
  | some ti => match ti.d with
    | .struct fs => match flatNs T d 0 fs with
      | some l => bif Nat.beq l.length ti.size then some l else none
      | none => none
    | _ => none
  | none => none

/-- what a row's cells are, in a heap -/
def ShN (P : Program) (h : Hp) : List Z → List V → Prop
  | [], [] => True
  | .p z :: zs, v :: vs => (shpB z v = true ∧ v.fits) ∧ ShN P h zs vs
  | .s e size sh :: zs, v :: vs => (∃ a n f rows, v = .slc a n f ∧ RoSlc h a n rows size ∧ (∀ r ∈ rows, shpBs sh r = true ∧ ∀ v ∈ r, v.fits) ∧ n * P.bytesOf e ≤ reachBytes) ∧ ShN P h zs vs
  | _, _ => False

theorem RoSlc.keep {h h' : Hp} {a : Option (Nat × Nat)} {n size : Nat} {rows : List (List V)} (hk : ∀ j o, h.get j = some o → h'.get j = some o) (r : RoSlc h a n rows size) : RoSlc h' a n rows size :=
  ⟨r.1, fun h0 => by obtain ⟨q, e1, e2⟩ := r.2 h0; exact ⟨q, e1, hk _ _ e2⟩⟩

theorem ShN.keep {P : Program} {h h' : Hp} (hk : ∀ j o, h.get j = some o → h'.get j = some o) : ∀ {zs : List Z} {vs : List V}, ShN P h zs vs → ShN P h' zs vs
  | [], [], _ => trivial
  | .p z :: zs, v :: vs, hh => ⟨hh.1, hh.2.keep hk⟩
  | .s e size sh :: zs, v :: vs, hh => by
    obtain ⟨⟨a, n, f, rows, e1, e2, e3⟩, h2⟩ := hh
    exact ⟨⟨a, n, f, rows, e1, e2.keep hk, e3⟩, h2.keep hk⟩
  | [], _ :: _, hh => hh.elim
  | .p _ :: _, [], hh => hh.elim
  | .s _ _ _ :: _, [], hh => hh.elim

/-- a row of the caller's that may be put into any heap -/
def RowP (P : Program) (B : Nat) (w : World) (zs : List Z) (cs : List Value) : Prop :=
  ∀ (ρ : Env) (h : Hp), Sat B ρ h w → ∃ ρ' h' vs, Sat B ρ' h' w ∧ Ext h.next ρ ρ' ∧ h.next ≤ h'.next ∧ (∀ j o, h.get j = some o → h'.get j = some o) ∧ VRs h'.next ρ' vs cs ∧ (∀ v ∈ vs, v.one = true) ∧ ShN P h' zs vs

theorem Ext.trans' {N M : Nat} {ρ ρ' ρ'' : Env} (h : Ext N ρ ρ') (hl : N ≤ M) (h' : Ext M ρ' ρ'') : Ext N ρ ρ'' := fun i hi => (h' i (by omega)).trans (h i hi)

theorem RowP.nil {P : Program} {B : Nat} {w : World} : RowP P B w [] [] := fun ρ h s => ⟨ρ, h, [], s, Ext.refl _ _, Nat.le_refl _, fun _ _ h => h, rfl, by simp, trivial⟩

theorem ShN.append {P : Program} {h : Hp} : ∀ {zs ys : List Z} {vs us : List V}, ShN P h zs vs → ShN P h ys us → ShN P h (zs ++ ys) (vs ++ us)
  | [], _, [], _, _, h' => h'
  | .p z :: zs, _, v :: vs, _, hh, h' => ⟨hh.1, hh.2.append h'⟩
  | .s e size sh :: zs, _, v :: vs, _, hh, h' => ⟨hh.1, hh.2.append h'⟩
  | [], _, _ :: _, _, hh, _ => hh.elim
  | .p _ :: _, _, [], _, hh, _ => hh.elim
  | .s _ _ _ :: _, _, [], _, hh, _ => hh.elim

theorem RowP.append {P : Program} {B : Nat} {w : World} {zs ys : List Z} {cs ds : List Value} (h1 : RowP P B w zs cs) (h2 : RowP P B w ys ds) : RowP P B w (zs ++ ys) (cs ++ ds) := fun ρ h s => by
  obtain ⟨ρ1, g1, vs, s1, x1, l1, k1, r1, o1, n1⟩ := h1 _ _ s
  obtain ⟨ρ2, g2, us, s2, x2, l2, k2, r2, o2, n2⟩ := h2 _ _ s1
  exact ⟨ρ2, g2, vs ++ us, s2, x1.trans' l1 x2, Nat.le_trans l1 l2, fun j o hj => k2 _ _ (k1 _ _ hj), (r1.ext l2 x2).append r2, fun v hv => (List.mem_append.1 hv).elim (o1 v) (o2 v), (n1.keep k2).append n2⟩

theorem Flat.rowP {P : Program} {B : Nat} {w : World} {zs vs : List V} {cs : List Value} (hf : Flat zs vs cs) : RowP P B w (zs.map .p) cs := fun ρ h s =>
  ⟨ρ, h, vs, s, Ext.refl _ _, Nat.le_refl _, fun _ _ h => h, hf.rel _ _, hf.one, by
    have h1 := hf.shp
    have h2 := hf.fits
    clear hf
    induction zs generalizing vs with
    | nil => cases vs with
      | nil => trivial
      | cons => simp [shpBs] at h1
    | cons z zs ih => cases vs with
      | nil => simp [shpBs] at h1
      | cons v vs =>
        simp only [shpBs, Bool.and_eq_true] at h1
        exact ⟨⟨h1.1, h2 v (by simp)⟩, ih h1.2 fun v hv => h2 v (by simp [hv])⟩⟩

section
variable {P : Program} {T : TT} {H : Type} {enc : TypeId × Value → H} {w : World} {base B : Nat} {held : Bool}

theorem trod_rows (hT : TTok P T) (d : Nat) : ∀ (fs : List (Nat × TypeId × Bool)) (o : Nat) (zs : List Z), flatNs T d o fs = some zs → ∀ (gs : List Field), fs = gs.map (fun f => (f.offset, f.type, f.name != "_")) →
    ∀ (n : Nat) (cs : List Value), cs.length = o + zs.length → (∀ (i : Nat) (f : Field), gs[i]? = some f → ∃ x : DataW H × List MemPlace, DataW.trod enc P w base (fun _ => true) held n f.type ((cs.drop f.offset).take (P.cellsOf f.type)) = some x ∧ (∀ p ∈ x.2, p.block < B) ∧ ∀ n ∈ x.1.weights P f.type, n ≤ reachBytes) →
    RowP P B w zs (cs.drop o)
  | [], o, zs, h => by
    intro gs hg n cs hc hf
    simp only [flatNs] at h
    cases h
    rw [List.drop_of_length_le (by simp at hc; omega)]
    exact RowP.nil
  | (off, ft, nm) :: fs, o, zs, h => by
    intro gs hg n cs hc hf
    simp only [flatNs] at h
    split at h
    · rename_i fi hfi
      cases hb : Nat.beq off o with
      | false => rw [hb] at h; cases h
      | true =>
        rw [hb] at h
        simp only [cond_true] at h
        obtain rfl := Nat.eq_of_beq_eq_true hb
        cases gs with
        | nil => simp at hg
        | cons g' gs =>
          simp only [List.map_cons, List.cons.injEq, Prod.mk.injEq] at hg
          obtain ⟨⟨rfl, rfl, _⟩, hg⟩ := hg
          obtain ⟨⟨x, ps⟩, hx, hxl, hxw⟩ := hf 0 g' rfl
          rw [hT.cellsOf hfi] at hx
          split at h
          · rename_i e hd
            split at h
            · rename_i sh ei hsh hei
              cases hb2 : (Nat.beq ei.size sh.length && Nat.blt 0 sh.length && Nat.beq fi.size 1) with
              | false => rw [hb2] at h; cases h
              | true =>
                rw [hb2] at h
                simp only [cond_true] at h
                split at h
                · rename_i r hr
                  cases h
                  simp only [Bool.and_eq_true] at hb2
                  obtain ⟨⟨b1, b2⟩, b3⟩ := hb2
                  have b1 := Nat.eq_of_beq_eq_true b1
                  have b3 := Nat.eq_of_beq_eq_true b3
                  rw [blt_eq, decide_eq_true_eq] at b2
                  rw [b3] at hx
                  obtain ⟨v, hv, hh⟩ := cell_slice hT hfi hd hei hsh b1 b2 hx hxl hxw
                  have rest := trod_rows hT d fs _ r hr gs hg n cs (by simp at hc; omega) fun i f hi => hf (i + 1) f (by simpa using hi)
                  have hfst : RowP P B w [.s e ei.size sh] [v] := fun ρ h s => by
                    obtain ⟨ρ', h', a, n, f, rows, s1, s2, s3, s4, s5, s6, s7⟩ := hh s
                    exact ⟨ρ', h', [.slc a n f], s1, s2, s3, s4, ⟨_, _, rfl, s5, rfl⟩, by simp [V.one], ⟨a, n, f, rows, rfl, s6, s7⟩, trivial⟩
                  have := hfst.append rest
                  rw [← hv, ← List.drop_drop, List.take_append_drop] at this
                  exact this
                · cases h
            · cases h
          · split at h
            · rename_i l hl
              cases hb2 : Nat.beq l.length fi.size with
              | false => rw [hb2] at h; cases h
              | true =>
                rw [hb2] at h
                simp only [cond_true] at h
                split at h
                · rename_i r hr
                  cases h
                  have b1 := Nat.eq_of_beq_eq_true hb2
                  obtain ⟨vs, hv⟩ := trod_flat hT d _ l hl n _ _ hx hxw
                  have rest := trod_rows hT d fs _ r hr gs hg n cs (by simp at hc; omega) fun i f hi => hf (i + 1) f (by simpa using hi)
                  have := (hv.rowP (P := P) (B := B) (w := w)).append rest
                  rw [← List.drop_drop, b1, List.take_append_drop] at this
                  exact this
                · cases h
            · cases h
    · cases h

theorem trod_row (hT : TTok P T) {d : Nat} {t : TypeId} {zs : List Z} (hz : flatN T d t = some zs) {fuel : Nat} {cs : List Value} {x : DataW H × List MemPlace} (hx : DataW.trod enc P w base (fun _ => true) held fuel t cs = some x)
    (hlt : ∀ p ∈ x.2, p.block < B) (hwt : ∀ n ∈ x.1.weights P t, n ≤ reachBytes) : RowP P B w zs cs := by
  simp only [flatN] at hz
  split at hz
  · rename_i ti ht
    split at hz
    · rename_i fs hd
      split at hz
      · rename_i l hl
        cases hb : Nat.beq l.length ti.size with
        | false => rw [hb] at hz; cases hz
        | true =>
          rw [hb] at hz
          cases hz
          obtain ⟨gs, hu, hfs⟩ := hT.struct ht hd
          obtain ⟨xs, n, _, rfl, hlen, hxl, hf⟩ := DataW.trod_struct hu hx
          rw [hT.cellsOf ht] at hlen
          have := trod_rows (B := B) hT d fs 0 zs hl gs.toList hfs n cs (by rw [hlen, ← Nat.eq_of_beq_eq_true hb]; omega) fun i f hi => by
            have := hf i f (by simpa using hi)
            have hi' : i < xs.length := by rw [hxl]; simpa using (List.getElem?_eq_some_iff.1 hi).1
            refine ⟨xs[i], by rw [this]; exact List.getElem?_eq_getElem hi', fun p hp => hlt p (List.mem_flatMap.2 ⟨xs[i], List.getElem_mem _, hp⟩), fun m hm => hwt m ?_⟩
            simp only [DataW.weights, hu]
            exact DataW.weights_mem_each (j := i) (t := f.type) (d := xs[i].1) (by simp [show gs[i]? = some f by simpa using hi]) (by simp [List.getElem?_eq_getElem hi']) m hm
          simpa using this
      · cases hz
    · cases hz
  · cases hz

/-- rows put one behind the other -/
theorem rows_put {zs : List Z} : ∀ (css : List (List Value)), (∀ cs ∈ css, RowP P B w zs cs) → ∀ {ρ : Env} {h : Hp}, Sat B ρ h w →
    ∃ (ρ' : Env) (h' : Hp) (rows : List (List V)), Sat B ρ' h' w ∧ Ext h.next ρ ρ' ∧ h.next ≤ h'.next ∧ (∀ j o, h.get j = some o → h'.get j = some o) ∧ rows.length = css.length ∧ (∀ (i : Nat) (r : List V) (cs : List Value), rows[i]? = some r → css[i]? = some cs → VRs h'.next ρ' r cs) ∧ (∀ r ∈ rows, (∀ v ∈ r, v.one = true) ∧ ShN P h' zs r)
  | [], _, ρ, h, s => ⟨ρ, h, [], s, Ext.refl _ _, Nat.le_refl _, fun _ _ h => h, rfl, by simp, by simp⟩
  | c :: css, hc, ρ, h, s => by
    obtain ⟨ρ1, g1, vs, s1, x1, l1, k1, r1, o1, n1⟩ := hc c (by simp) _ _ s
    obtain ⟨ρ2, g2, rows, s2, x2, l2, k2, e2, r2, o2⟩ := rows_put css (fun cs h => hc cs (by simp [h])) s1
    refine ⟨ρ2, g2, vs :: rows, s2, x1.trans' l1 x2, Nat.le_trans l1 l2, fun j o hj => k2 _ _ (k1 _ _ hj), by simp [e2], fun i r cs hr hcs => ?_, fun r hr => ?_⟩
    · cases i with
      | zero => simp at hr hcs; subst hr hcs; exact r1.ext l2 x2
      | succ i => exact r2 i r cs (by simpa using hr) (by simpa using hcs)
    · rcases List.mem_cons.1 hr with rfl | hr
      · exact ⟨o1, n1.keep k2⟩
      · exact o2 r hr

/-- A SLICE that the caller hands in, in whose elements' cells slices of plain elements may stand. -/
theorem arg_sliceN (hT : TTok P T) {t e : TypeId} {ti ei : TI} {zs : List Z} {d : Nat} (ht : T t = some ti) (hd : ti.d = .slc e) (he : T e = some ei) (hz : flatN T d e = some zs) (h0 : 0 < ei.size)
    {r : Reach} {b0 : Nat} {v : Value} {x : DataW H} {ps : List MemPlace} (hval : Value.okWide P w r b0 t v) (htr : DataW.Trod enc P w base (fun _ => true) held t v x ps) (hlt : ∀ p ∈ ps, p.block < B) (hsz : ∀ n ∈ x.weights P t, n ≤ reachBytes)
    {ρ : Env} {h : Hp} (s : Sat B ρ h w) :
    ∃ ρ' h' a n f rows, Sat B ρ' h' w ∧ Ext h.next ρ ρ' ∧ h.next ≤ h'.next ∧ (∀ j o, h.get j = some o → h'.get j = some o) ∧ VR h'.next ρ' (.slc a n f) v ∧ RoSlc h' a n rows ei.size ∧
      (∀ r ∈ rows, ShN P h' zs r) ∧ n * P.bytesOf e ≤ reachBytes := by
  obtain ⟨fuel, htr⟩ := htr
  have hc : v.cells.toList = [v] := by
    rcases okWide_slice (hT.slc ht hd) hval with rfl | ⟨a, len, cap, rfl, _⟩ <;> rfl
  rw [hc] at htr
  rcases slice_open hT ht hd he h0 htr hlt hsz with e1 | ⟨a, len, cap, e1, hle, hsb, hby, each⟩
  · cases e1
    exact ⟨ρ, h, none, 0, true, [], s, Ext.refl _ _, Nat.le_refl _, fun _ _ h => h, ⟨rfl, rfl⟩, ⟨rfl, fun h => absurd h (by omega)⟩, by simp, by simp⟩
  · cases e1
    have each' : ∀ i, i < cap → ∃ cs, w.cells? base (a.add (i * ei.size)) ei.size = some cs ∧ RowP P B w zs cs := fun i hi => by
      obtain ⟨n, cs, y, g1, g2, g3, g4⟩ := each i hi
      exact ⟨cs, g1, trod_row hT hz g2 g3 g4⟩
    let cOf : Nat → List Value := fun i => if hi : i < cap then (each' i hi).choose else []
    have hcOf : ∀ i, i < cap → w.cells? base (a.add (i * ei.size)) ei.size = some (cOf i) ∧ RowP P B w zs (cOf i) := fun i hi => by
      simp only [cOf, dif_pos hi]
      exact (each' i hi).choose_spec
    obtain ⟨ρ1, g1, rows, s1, x1, l1, k1, e2, r1, o1⟩ := rows_put (P := P) ((List.range len).map cOf) (fun cs hcs => by
      obtain ⟨i, hi, rfl⟩ := List.mem_map.1 hcs
      exact (hcOf i (by have := List.mem_range.1 hi; omega)).2) s
    have hrl : rows.length = len := by rw [e2]; simp
    obtain ⟨ρ', h', b, f, s2, x2, l2, k2, v2, ro⟩ := slice_put (a := 0) (size := ei.size) (len := len) (cap := cap) (base := base) (rows := rows) h0 hle hsb s1 hrl (fun i hi => ⟨cOf i, (hcOf i hi).1, fun r hr => by
      have hil : i < len := by rw [← hrl]; exact (List.getElem?_eq_some_iff.1 hr).1
      exact ⟨r1 i r (cOf i) hr (by simp [List.getElem?_range hil]), (o1 r (List.mem_of_getElem? hr)).1⟩⟩)
    exact ⟨ρ', h', b, len, f, rows, s2, x1.trans' l1 x2, Nat.le_trans l1 l2, fun j o hj => k2 _ _ (k1 _ _ hj), v2, ro, fun r hr => (o1 r hr).2.keep k2, Nat.le_trans (Nat.mul_le_mul_right _ hle) hby⟩
end
end Go.Vex
