/-
  The table and the document's, side by side (layer 23): plain laws.
-/
import Derived.Test.YteknlobdnjcdbaaVexEE
import Derived.Test.YteknlobdnjcdbaaVexFF
import Derived.Test.YteknlobdnjcdbaaVexGG
import Derived.Test.YteknlobdnjcdbaaTab23
import Derived.Test.YteknlobdnjcdbaaXa23
import Derived.Test.YteknlobdnjcdbaaCa23
import Derived.Test.YteknlobdnjcdbaaCb23
import Derived.Test.YteknlobdnjcdbaaCc23
import Derived.Test.YteknlobdnjcdbaaXb23
import Derived.Test.YteknlobdnjcdbaaCe23
import Derived.Test.YteknlobdnjcdbaaCf23
import Derived.Test.YteknlobdnjcdbaaXs23
import Derived.Test.YteknlobdnjcdbaaXk23
import Derived.Test.YteknlobdnjcdbaaCsx23
import Derived.Test.YteknlobdnjcdbaaCgx23
import Derived.Test.YteknlobdnjcdbaaCh23
import Derived.Test.YteknlobdnjcdbaaCi23
import Derived.Test.YteknlobdnjcdbaaCk23
import Derived.Test.YteknlobdnjcdbaaXy23
import Derived.Test.YteknlobdnjcdbaaClx23
set_option linter.unusedVariables false
set_option linter.unusedSimpArgs false
namespace Go.Vex.TRef
open Go.Proofs Go.Vex.Tbl

theorem mget_append {κ β : Type} [DecidableEq κ] (A B : List (κ × β)) (q : κ) : mget (A ++ B) q = match mget A q with
    | some v => some v
    | none => mget B q := by
  induction A with
  | nil => rfl
  | cons x A ih =>
    rw [List.cons_append, mget_cons, mget_cons]
    by_cases h : q = x.1
    · rw [if_pos h, if_pos h]
    · rw [if_neg h, if_neg h]; exact ih

def one (e : Int × Int) : Nat := if e.1 = 0 then 0 else 1

theorem cnt_cons (z : Pr × (Int × Int)) (L : LT) : cnt (z :: L) = cnt L + one z.2 := by
  unfold cnt one
  rw [List.countP_cons]
  by_cases h : z.2.1 = 0 <;> simp [h]

theorem cnt_new {L : LT} {p : Pr} (e : Int × Int) (h : mget L p = none) : cnt (mput L p e) = cnt L + one e := by
  rw [mput_none _ _ _ h]
  unfold cnt one
  rw [List.countP_append]
  by_cases h : e.1 = 0 <;> simp [h]

theorem cnt_put {p : Pr} {x : Int × Int} (e : Int × Int) : ∀ {L : LT}, mget L p = some x → cnt (mput L p e) + one x = cnt L + one e
  | [], h => by cases h
  | z :: L, h => by
    rw [mget_cons] at h
    unfold mput
    by_cases hz : p = z.1
    · rw [if_pos hz] at h ⊢
      cases h
      rw [cnt_cons, cnt_cons]; show cnt L + one e + one z.2 = cnt L + one z.2 + one e; omega
    · rw [if_neg hz] at h ⊢
      have := cnt_put e h
      rw [cnt_cons, cnt_cons]; omega

theorem cnt_le (L : LT) : cnt L ≤ L.length := List.countP_le_length

theorem put_len (L : LT) (p : Pr) (e : Int × Int) : (mput L p e).length = if mget L p = none then L.length + 1 else L.length := by
  by_cases h : mget L p = none
  · rw [if_pos h, mput_none _ _ _ h]; simp
  · rw [if_neg h]
    have := congrArg List.length (mput_some L p e h)
    simpa using this

theorem mget_filter {L : LT} (f : Pr × (Int × Int) → Bool) (hn : (L.map Prod.fst).Nodup) (p : Pr) : mget (L.filter f) p = match mget L p with
    | some x => if f (p, x) = true then some x else none
    | none => none := by
  induction L with
  | nil => rfl
  | cons z L ih =>
    rw [List.map_cons, List.nodup_cons] at hn
    have ih := ih hn.2
    rw [mget_cons]
    by_cases hz : p = z.1
    · rw [if_pos hz]
      have hno : mget L p = none := by
        cases hh : mget L p with
        | none => rfl
        | some v => exact absurd ((mget_mem L p).1 (by rw [hh]; simp)) (by rw [hz]; exact hn.1)
      have e : (p, z.2) = z := by rw [hz]
      cases hf : f z with
      | true => rw [List.filter_cons, if_pos hf, mget_cons, if_pos hz]; simp only [e, hf, if_true]
      | false => rw [List.filter_cons, if_neg (by rw [hf]; exact Bool.false_ne_true), ih, hno]; simp only [e, hf, Bool.false_eq_true, if_false]
    · rw [if_neg hz]
      cases hf : f z with
      | true => rw [List.filter_cons, if_pos hf, mget_cons, if_neg hz]; exact ih
      | false => rw [List.filter_cons, if_neg (by rw [hf]; exact Bool.false_ne_true)]; exact ih

structure Pl (S : TS) (L : LT) (E : ET) (k : Nat) : Prop where
  look : ∀ p, Tbl.look S p = mget L p
  lnd : (L.map Prod.fst).Nodup
  ll : L.length ≤ k
  conns : S.conns = cnt L
  rests : S.rests = (L.length : Int) - cnt L
  ears : ∀ s, mget S.ears s = mget E s
  end' : (S.ears.map Prod.fst).Nodup
  er : E.Pairwise fun a b => a.1 < b.1
  el : E.length ≤ k
  sl : S.ears.length ≤ k
  nd : ∀ j, j < 8 → ((S.ms j).map Prod.fst).Nodup
  len : ∀ j, j < 8 → (S.ms j).length ≤ k
  sh : ∀ j, j < 8 → ∀ z ∈ S.ms j, shard z.1 = j
  s0 : ∀ p x, mget L p = some x → 0 ≤ x.1

variable {S : TS} {L : LT} {E : ET} {k : Nat}

theorem Pl.start : Pl newS [] [] 0 := ⟨fun p => rfl, by simp, by simp, rfl, rfl, fun s => rfl, by simp [newS], .nil, by simp, by simp [newS], fun j _ => by simp [newS], fun j _ => by simp [newS], fun j _ z hz => by simp [newS] at hz, fun p x h => by cases h⟩

theorem Pl.weak (h : Pl S L E k) : Pl S L E (k + 1) := ⟨h.look, h.lnd, by have := h.ll; omega, h.conns, h.rests, h.ears, h.end', h.er, by have := h.el; omega, by have := h.sl; omega, h.nd, fun j hj => by have := h.len j hj; omega, h.sh, h.s0⟩

theorem er_nd {E : ET} (h : E.Pairwise fun a b => a.1 < b.1) : (E.map Prod.fst).Nodup := (List.pairwise_map.2 h).imp fun h => by omega

/-- an item put, or turned -/
theorem Pl.set (h : Pl S L E k) {p : Pr} {e : Int × Int} {S' : TS} (hm : S'.ms = (S.put p e).ms) (he : S'.ears = S.ears) (hc : S'.conns = cnt (mput L p e)) (hr : S'.rests = ((mput L p e).length : Int) - cnt (mput L p e)) (h0 : 0 ≤ e.1) : Pl S' (mput L p e) E (k + 1) where
  look := fun q => by
    have e1 : Tbl.look S' q = Tbl.look (S.put p e) q := by unfold Tbl.look; rw [hm]
    rw [e1, look_put, mget_mput, h.look]
  lnd := mput_nodup h.lnd _ _
  ll := by have := h.ll; have := mput_len L p e; omega
  conns := hc
  rests := hr
  ears := by rw [he]; exact h.ears
  end' := by rw [he]; exact h.end'
  er := h.er
  el := by have := h.el; omega
  sl := by rw [he]; have := h.sl; omega
  nd := fun j hj8 => by
    rw [hm]
    show ((if j = shard p then mput (S.ms j) p e else S.ms j).map Prod.fst).Nodup
    by_cases hj : j = shard p
    · rw [if_pos hj]; exact mput_nodup (h.nd j hj8) _ _
    · rw [if_neg hj]; exact h.nd j hj8
  len := fun j hj8 => by
    rw [hm]
    show (if j = shard p then mput (S.ms j) p e else S.ms j).length ≤ _
    have := h.len j hj8
    by_cases hj : j = shard p
    · rw [if_pos hj]; have := mput_len (S.ms j) p e; omega
    · rw [if_neg hj]; omega
  sh := fun j hj8 z hz => by
    rw [hm] at hz
    have hz : z ∈ (if j = shard p then mput (S.ms j) p e else S.ms j) := hz
    by_cases hj : j = shard p
    · rw [if_pos hj] at hz
      have hg := mget_of (mput_nodup (h.nd j hj8) p e) hz
      rw [mget_mput] at hg
      by_cases hzp : z.1 = p
      · rw [hzp, hj]
      · rw [if_neg hzp] at hg
        exact h.sh j hj8 _ (mget_in hg)
    · rw [if_neg hj] at hz; exact h.sh j hj8 z hz
  s0 := fun q x hx => by
    rw [mget_mput] at hx
    by_cases hq : q = p
    · rw [if_pos hq] at hx; cases hx; exact h0
    · rw [if_neg hq] at hx; exact h.s0 q x hx

theorem Pl.put (h : Pl S L E k) (hk : k ≤ 300) (p : Pr) {w : Int} (h0 : 0 ≤ w) : (putF S p w).1 = (putR L p w).1 ∧ Pl (putF S p w).2 (putR L p w).2 E (k + 1) := by
  unfold putF putR
  by_cases h1 : w = 0
  · rw [if_pos h1, if_pos h1]; exact ⟨rfl, h.weak⟩
  rw [if_neg h1, if_neg h1, h.look]
  by_cases h2 : (mget L p).isSome = true
  · rw [if_pos h2, if_pos h2]; exact ⟨rfl, h.weak⟩
  rw [if_neg h2, if_neg h2, h.conns]
  by_cases h3 : ¬ (cnt L : Int) < 1024
  · rw [if_pos h3, if_pos h3]; exact ⟨rfl, h.weak⟩
  rw [if_neg h3, if_neg h3]
  have hno : mget L p = none := by simpa using h2
  have hl := h.ll
  have hcl := cnt_le L
  have hc := cnt_new (w, 0) hno
  have ho : one (w, 0) = 1 := by unfold one; rw [if_neg h1]
  have hlen := put_len L p (w, 0)
  rw [if_pos hno] at hlen
  have hr := h.rests
  refine ⟨rfl, h.set (p := p) (e := (w, 0)) rfl rfl ?_ ?_ h0⟩
  · show IntKind.i64.wrap ((cnt L : Int) + 1) = _
    rw [wr (by omega) (by omega), hc, ho]; push_cast; rfl
  · show S.rests = _
    rw [hr, hlen, hc, ho]; push_cast; omega

theorem Pl.rest (h : Pl S L E k) (hk : k ≤ 300) (p : Pr) (u : Int) : (restF S p u).1 = (restR L p u).1 ∧ Pl (restF S p u).2 (restR L p u).2 E (k + 1) := by
  have hl := h.ll
  have hcl := cnt_le L
  have hr := h.rests
  have hcn := h.conns
  unfold restF restR
  rw [h.look]
  cases hg : mget L p with
  | none =>
    simp only [Option.isSome_none, Bool.false_and, Bool.false_eq_true, if_false]
    rw [hr]
    by_cases h3 : ¬ ((L.length : Int) - cnt L) < 1024
    · rw [if_pos h3, if_pos h3]; exact ⟨rfl, h.weak⟩
    rw [if_neg h3, if_neg h3]
    have hc := cnt_new (0, u) hg
    have ho : one (0, u) = 0 := rfl
    have hlen := put_len L p (0, u)
    rw [if_pos hg] at hlen
    refine ⟨rfl, h.set (p := p) (e := (0, u)) rfl rfl ?_ ?_ (Int.le_refl _)⟩
    · show S.conns = _
      rw [hcn, hc, ho]; rfl
    · show IntKind.i64.wrap (((L.length : Int) - cnt L) + 1) = _
      rw [wr (by omega) (by omega), hlen, hc, ho]; push_cast; omega
  | some x =>
    have hlen : ∀ e, (mput L p e).length = L.length := fun e => by rw [put_len, if_neg (by rw [hg]; simp)]
    by_cases h1 : x.1 = 0
    · have hc1 : ((some x).isSome && ((some x).getD (0, 0)).1 == 0) = true := by simp [h1]
      rw [if_pos hc1]
      simp only [if_pos h1, Option.getD_some]
      have hc := cnt_put (0, if u < x.2 then x.2 else u) hg
      have ho : one (0, if u < x.2 then x.2 else u) = 0 := rfl
      have ho1 : one x = 0 := by unfold one; rw [if_pos h1]
      refine ⟨by trivial, h.set (p := p) rfl rfl ?_ ?_ (Int.le_refl _)⟩
      · show S.conns = _
        rw [hcn]; omega
      · show S.rests = _
        rw [hr, hlen]; omega
    · have hc1 : ¬ ((some x).isSome && ((some x).getD (0, 0)).1 == 0) = true := by simp [h1]
      rw [if_neg hc1, hr]
      simp only [if_neg h1]
      by_cases h3 : ¬ ((L.length : Int) - cnt L) < 1024
      · rw [if_pos h3, if_pos h3]; exact ⟨rfl, h.weak⟩
      rw [if_neg h3, if_neg h3]
      simp only [Option.isSome_some, if_true]
      have hc := cnt_put (0, u) hg
      have ho : one (0, u) = 0 := rfl
      have ho1 : one x = 1 := by unfold one; rw [if_neg h1]
      refine ⟨by trivial, h.set (p := p) (e := (0, u)) rfl rfl ?_ ?_ (Int.le_refl _)⟩
      · show IntKind.i64.wrap (S.conns - 1) = _
        rw [hcn, wr (by omega) (by omega)]; omega
      · show IntKind.i64.wrap (((L.length : Int) - cnt L) + 1) = _
        rw [wr (by omega) (by omega), hlen]; omega

theorem Pl.listen (h : Pl S L E k) (s : Int) (a : Ad) {c : Int} {E' : ET} (hl : ListenR E s a c E') : (listenF S s a).1 = c ∧ Pl (listenF S s a).2 L E' (k + 1) := by
  unfold listenF
  rcases hl with ⟨h1, rfl, rfl⟩ | ⟨h1, h2, rfl, rfl⟩ | ⟨h1, h2, rfl, m, hm, hlt, hge, rfl⟩
  · rw [if_pos h1]; exact ⟨rfl, h.weak⟩
  · rw [if_neg h1, h.ears, if_pos h2]; exact ⟨rfl, h.weak⟩
  rw [if_neg h1, h.ears, h2, if_neg (by simp)]
  have hE : E = E.take m ++ E.drop m := (List.take_append_drop m E).symm
  have her := h.er
  rw [hE, List.pairwise_append] at her
  have hA : ∀ z ∈ E.take m, z.1 < s := fun z hz => by
    obtain ⟨j, hj⟩ := List.mem_iff_getElem?.1 hz
    have hjl := (List.getElem?_eq_some_iff.1 hj).1
    rw [List.length_take] at hjl
    rw [List.getElem?_take_of_lt (by omega)] at hj
    exact hlt j z (by omega) hj
  have hns : ∀ z ∈ E, z.1 ≠ s := fun z hz e => by
    have := (mget_mem E s).2 (e ▸ List.mem_map_of_mem hz)
    exact this h2
  have hB : ∀ z ∈ E.drop m, s < z.1 := fun z hz => by
    obtain ⟨j, hj⟩ := List.mem_iff_getElem?.1 hz
    rw [List.getElem?_drop] at hj
    have hzE := List.mem_of_getElem? hj
    have hjl := (List.getElem?_eq_some_iff.1 hj).1
    obtain ⟨y, hy⟩ : ∃ y, E[m]? = some y := ⟨_, List.getElem?_eq_getElem (by omega)⟩
    have h3 := hge y hy
    have h4 := hns y (List.mem_of_getElem? hy)
    by_cases hj0 : j = 0
    · subst hj0
      rw [Nat.add_zero, hy] at hj; cases hj; omega
    · have h5 := List.pairwise_iff_getElem.1 h.er m (m + j) (by omega) hjl (by omega)
      rw [(List.getElem?_eq_some_iff.1 hy).2, (List.getElem?_eq_some_iff.1 hj).2] at h5
      omega
  have hAn : mget (E.take m) s = none := by
    cases hh : mget (E.take m) s with
    | none => rfl
    | some v => have := hA _ (mget_in hh); simp at this
  refine ⟨rfl, h.look, h.lnd, by have := h.ll; omega, h.conns, h.rests, fun q => ?_, mput_nodup h.end' _ _, ?_, ?_, by show (mput S.ears s a).length ≤ _; have := h.sl; have := mput_len S.ears s a; omega, h.nd, fun j hj => by have := h.len j hj; show (S.ms j).length ≤ _; omega, h.sh, h.s0⟩
  · show mget (mput S.ears s a) q = _
    rw [mget_mput, mget_append, mget_cons, h.ears]
    by_cases hq : q = s
    · rw [if_pos hq, hq, hAn, if_pos rfl]
    · rw [if_neg hq, if_neg hq]
      have h5 := mget_append (E.take m) (E.drop m) q
      rw [← hE] at h5
      exact h5
  · rw [List.pairwise_append]
    refine ⟨her.1, List.pairwise_cons.2 ⟨fun z hz => hB z hz, her.2.1⟩, fun x hx y hy => ?_⟩
    rcases List.mem_cons.1 hy with rfl | hy
    · exact hA x hx
    · exact her.2.2 x hx y hy
  · have := h.el
    simp; omega

theorem Pl.deaf1 (h : Pl S L E k) (s : Int) (c : Nat) : ((Tbl.deaf1 (c, S) s).1 : Int) = c + (deafR E s).1 ∧ Pl (Tbl.deaf1 (c, S) s).2 L (deafR E s).2 k := by
  unfold Tbl.deaf1 deafR
  rw [h.ears]
  by_cases h1 : (mget E s).isSome = true
  · rw [if_pos h1, if_pos h1]
    refine ⟨by push_cast; rfl, h.look, h.lnd, h.ll, h.conns, h.rests, fun q => ?_, h.end'.sublist ((mdel_sub _ _).map _), h.er.sublist (mdel_sub _ _), by have := h.el; have := (mdel_sub E s).length_le; show (mdel E s).length ≤ k; omega, by have := h.sl; have := (mdel_sub S.ears s).length_le; show (mdel S.ears s).length ≤ _; omega, h.nd, h.len, h.sh, h.s0⟩
    show mget (mdel S.ears s) q = _
    by_cases hq : q = s
    · rw [hq, mget_self _ _ h.end', mget_self _ _ (er_nd h.er)]
    · rw [mget_mdel _ _ _ hq, mget_mdel _ _ _ hq]; exact h.ears q
  · rw [if_neg h1, if_neg h1]
    exact ⟨by simp, h⟩

/-- how many entries the first j shards have -/
def tot (S : TS) : Nat → Nat
  | 0 => 0
  | j + 1 => tot S j + (S.ms j).length

theorem tot_flat (S : TS) : ∀ j, tot S j = ((List.range j).flatMap S.ms).length
  | 0 => rfl
  | j + 1 => by
    rw [List.range_succ, List.flatMap_append, List.length_append, ← tot_flat S j]
    simp [tot]

theorem tot_len {S : TS} {L : LT} (hlook : ∀ p, Tbl.look S p = mget L p) (lnd : (L.map Prod.fst).Nodup) (nd : ∀ j, j < 8 → ((S.ms j).map Prod.fst).Nodup) (sh : ∀ j, j < 8 → ∀ z ∈ S.ms j, shard z.1 = j) : tot S 8 = L.length := by
  have ndl : ∀ {l : LT}, (l.map Prod.fst).Nodup → l.Nodup := fun h => (List.pairwise_map.1 h).imp fun h e => h (congrArg Prod.fst e)
  rw [tot_flat]
  refine ((List.perm_ext_iff_of_nodup ?_ (ndl lnd)).2 fun z => ?_).length_eq
  · unfold List.Nodup
    rw [List.pairwise_flatMap]
    refine ⟨fun j hj => ndl (nd j (List.mem_range.1 hj)), ?_⟩
    rw [List.pairwise_iff_getElem]
    intro i j hi hj hij x hx y hy e
    simp only [List.length_range] at hi hj
    simp only [List.getElem_range] at hx hy
    have h1 := sh i hi x hx
    have h2 := sh j hj y hy
    rw [e] at h1; omega
  · rw [List.mem_flatMap]
    constructor
    · rintro ⟨j, hj, hz⟩
      have hj := List.mem_range.1 hj
      have h1 := mget_of (nd j hj) hz
      have h2 := sh j hj z hz
      have h3 := hlook z.1
      unfold Tbl.look at h3
      rw [h2, h1] at h3
      exact mget_in h3.symm
    · intro hz
      have h1 := mget_of lnd hz
      rw [← hlook] at h1
      exact ⟨shard z.1, List.mem_range.2 (shard_lt _), mget_in h1⟩

theorem gone_tot {now : Int} {S S' : TS} {n : Int} (o : OldR now S S' n) : ∀ j, gone S S' j = (tot S j : Int) - tot S' j
  | 0 => rfl
  | j + 1 => by
    show gone S S' j + _ = ((tot S j + (S.ms j).length : Nat) : Int) - ((tot S' j + (S'.ms j).length : Nat) : Int)
    rw [gone_tot o j]; push_cast; omega

theorem Pl.old (h : Pl S L E k) {now : Int} {S' : TS} (o : OldR now S S' (gone S S' 8)) : gone S S' 8 = (L.length : Int) - (L.filter (keep now)).length ∧ Pl S' (L.filter (keep now)) E (k + 1) := by
  have hlook : ∀ p, Tbl.look S' p = mget (L.filter (keep now)) p := fun p => by
    rw [look_old o p, h.look, mget_filter _ h.lnd]
    cases mget L p with
    | none => rfl
    | some x =>
      have e : keep now (p, x) = !oldB now x := by
        unfold keep oldB
        cases h1 : x.1 == 0
        · simp [bne, h1]
        · simp [bne, h1]
      simp only [e]
      cases oldB now x <;> rfl
  have lnd' : ((L.filter (keep now)).map Prod.fst).Nodup := h.lnd.sublist (List.filter_sublist.map _)
  have nd' : ∀ j, j < 8 → ((S'.ms j).map Prod.fst).Nodup := fun j hj => (h.nd j hj).sublist ((o.ms j hj).sub.map _)
  have sh' : ∀ j, j < 8 → ∀ z ∈ S'.ms j, shard z.1 = j := fun j hj z hz => h.sh j hj z ((o.ms j hj).sub.subset hz)
  have t1 := tot_len h.look h.lnd h.nd h.sh
  have t2 := tot_len hlook lnd' nd' sh'
  have hg := gone_tot o 8
  rw [t1, t2] at hg
  have hfl := List.length_filter_le (keep now) L
  have hcnt : cnt (L.filter (keep now)) = cnt L := by
    unfold cnt
    rw [List.countP_filter]
    congr 1
    funext z
    unfold keep
    cases z.2.1 != 0 <;> simp
  refine ⟨hg, hlook, lnd', by have := h.ll; omega, by rw [o.conns, h.conns, hcnt], by rw [o.rests, h.rests, hg, hcnt]; omega, by rw [o.ears]; exact h.ears, by rw [o.ears]; exact h.end', h.er, by have := h.el; omega, by rw [o.ears]; have := h.sl; omega, nd', fun j hj => by have := (o.ms j hj).sub.length_le; have := h.len j hj; omega, sh', fun p x hx => ?_⟩
  rw [mget_filter _ h.lnd] at hx
  cases hm : mget L p with
  | none => rw [hm] at hx; cases hx
  | some y =>
    rw [hm] at hx
    simp only at hx
    by_cases hkp : keep now (p, y) = true
    · rw [if_pos hkp] at hx; cases hx; exact h.s0 p _ hm
    · rw [if_neg hkp] at hx; cases hx

theorem atL_is (h : Pl S L E k) (a : Ad) : AtL S a (TRef.atL E a) := by
  refine ⟨?_, fun s => ?_⟩
  · unfold TRef.atL
    exact List.pairwise_map.2 (h.er.filter _)
  · unfold TRef.atL
    rw [List.mem_map, h.ears]
    constructor
    · rintro ⟨z, hz, rfl⟩
      rw [List.mem_filter] at hz
      rw [mget_of (er_nd h.er) hz.1]
      simpa using hz.2
    · intro hs
      exact ⟨(s, a), List.mem_filter.2 ⟨mget_in hs, by simp⟩, rfl⟩

theorem Pl.find (h : Pl S L E k) {p : Pr} {hash now k1 w1 k2 w2 : Int} (h1 : FindR S p hash now k1 w1) (h2 : FindD L E p hash now k2 w2) : k1 = k2 ∧ w1 = w2 := by
  rcases h1 with ⟨s, u, e, e1, rfl, rfl⟩ | ⟨s, u, e, e1, e2, rfl, rfl⟩ | ⟨hno, l1, l2, a1, a2, hl⟩
  · rw [h.look] at e
    rcases h2 with ⟨s', u', f, f1, rfl, rfl⟩ | ⟨s', u', f, f1, f2, rfl, rfl⟩ | ⟨hno', _⟩
    · rw [e] at f; cases f; exact ⟨rfl, rfl⟩
    · rw [e] at f; cases f; omega
    · have := (hno' _ _ e).1; omega
  · rw [h.look] at e
    have h0 := h.s0 p _ e
    have h0 : 0 ≤ s := h0
    rcases h2 with ⟨s', u', f, f1, rfl, rfl⟩ | ⟨s', u', f, f1, f2, rfl, rfl⟩ | ⟨hno', _⟩
    · rw [e] at f; cases f; omega
    · exact ⟨rfl, rfl⟩
    · have := (hno' _ _ e).2; omega
  · have el1 := AtL.uniq a1 (atL_is h ⟨p.a, p.b⟩)
    have el2 := AtL.uniq a2 (atL_is h ⟨0, p.b⟩)
    subst el1 el2
    have hno2 : ∀ s u, mget L p = some (s, u) → ¬ 0 < s ∧ ¬ now < u := fun s u e => hno s u (by rw [h.look]; exact e)
    rcases h2 with ⟨s', u', f, f1, rfl, rfl⟩ | ⟨s', u', f, f1, f2, rfl, rfl⟩ | ⟨hno', hl'⟩
    · have := (hno2 _ _ f).1
      have h0 := h.s0 p _ f
      simp only at h0
      omega
    · have := (hno2 _ _ f).2; omega
    · rcases hl with ⟨e1, rfl, rfl⟩ | ⟨rfl, e1⟩
      · rcases hl' with ⟨_, rfl, rfl⟩ | ⟨rfl, e2⟩
        · exact ⟨rfl, rfl⟩
        · rw [e1] at e2; simp at e2
      · rcases hl' with ⟨e2, rfl, rfl⟩ | ⟨rfl, e2⟩
        · rw [e2] at e1; simp at e1
        · rw [e1] at e2
          exact ⟨rfl, Option.some.inj e2⟩
end Go.Vex.TRef
