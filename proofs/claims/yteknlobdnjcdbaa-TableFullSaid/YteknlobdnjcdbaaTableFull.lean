/-
  TableFull of layer 23: however many of each, the law returns true and leaves the input as it was. No condition.
-/
import Derived.Test.YteknlobdnjcdbaaVexFF
import Derived.Test.YteknlobdnjcdbaaVexGG
import Derived.Test.YteknlobdnjcdbaaTab23
import Derived.Test.YteknlobdnjcdbaaXa23
import Derived.Test.YteknlobdnjcdbaaCa23
import Derived.Test.YteknlobdnjcdbaaCb23
import Derived.Test.YteknlobdnjcdbaaCc23
import Derived.Test.YteknlobdnjcdbaaCd23
import Derived.Test.YteknlobdnjcdbaaXb23
import Derived.Test.YteknlobdnjcdbaaCe23
import Derived.Test.YteknlobdnjcdbaaCf23
import Derived.Test.YteknlobdnjcdbaaCi23
import Derived.Test.YteknlobdnjcdbaaCj23
import Derived.Test.YteknlobdnjcdbaaXd23
import Derived.Test.YteknlobdnjcdbaaRows
import Derived.WalkKit
import Derived.ProofKit
import Derived.OpenShut
import Derived.KernelRfl
set_option linter.unusedVariables false
set_option linter.unusedSimpArgs false
namespace Go.Vex.TableFull
open Go.Proofs Go.Vex.Tbl

/-- how many entries of the first k shards are so -/
def cntO (f : Int × Int → Bool) (S : TS) : Nat → Nat
  | 0 => 0
  | k + 1 => cntO f S k + (S.ms k).countP fun z => f z.2

theorem cnt_put {f : Int × Int → Bool} {S : TS} {p : Pr} {e : Int × Int} (h : Tbl.look S p = none) : ∀ k, cntO f (S.put p e) k = cntO f S k + (if shard p < k ∧ f e = true then 1 else 0)
  | 0 => by simp [cntO]
  | k + 1 => by
    have ih := cnt_put (f := f) (e := e) h k
    show cntO f (S.put p e) k + ((S.put p e).ms k).countP _ = cntO f S k + (S.ms k).countP _ + _
    rw [ih]
    by_cases hk : k = shard p
    · subst hk
      have e1 : (S.put p e).ms (shard p) = S.ms (shard p) ++ [(p, e)] := by
        show (if shard p = shard p then mput (S.ms (shard p)) p e else _) = _
        rw [if_pos rfl, mput_none _ _ _ h]
      rw [e1, List.countP_append]
      have e2 : [(p, e)].countP (fun z => f z.2) = if f e = true then 1 else 0 := by simp [List.countP_cons]
      rw [e2]
      by_cases hf : f e = true
      · simp [hf]; omega
      · simp [hf]
    · have e1 : (S.put p e).ms k = S.ms k := by show (if k = shard p then _ else _) = _; rw [if_neg hk]
      rw [e1]
      by_cases hf : f e = true
      · by_cases hl : shard p < k
        · rw [if_pos ⟨hl, hf⟩, if_pos ⟨by omega, hf⟩]; omega
        · rw [if_neg (fun h => hl h.1), if_neg (fun h => by have := h.1; omega)]; omega
      · rw [if_neg (fun h => hf h.2), if_neg (fun h => hf h.2)]; omega

theorem left_count {now : Int} {L M : List (Pr × (Int × Int))} (hn : (L.map Prod.fst).Nodup) (hl : Tbl.Left now L M) : M.length + L.countP (fun z => oldB now z.2) = L.length := by
  have nd : ∀ {l : List (Pr × (Int × Int))}, (l.map Prod.fst).Nodup → l.Nodup := fun h => (List.pairwise_map.1 h).imp fun h e => h (congrArg Prod.fst e)
  have hM : (M.map Prod.fst).Nodup := hn.sublist (hl.sub.map _)
  have hp : M.Perm (L.filter fun z => !oldB now z.2) := by
    refine (List.perm_ext_iff_of_nodup (nd hM) ((nd hn).sublist List.filter_sublist)).2 fun z => ?_
    rw [List.mem_filter]
    constructor
    · intro hz
      have hzL := hl.sub.subset hz
      have h1 := mget_of_mem hM hz
      rw [hl.get, mget_of_mem hn hzL] at h1
      refine ⟨hzL, ?_⟩
      cases ho : oldB now z.2 with
      | true =>
        have h1 : (if oldB now z.2 = true then none else some z.2) = some z.2 := h1
        rw [ho] at h1; simp at h1
      | false => rfl
    · rintro ⟨hz, ho⟩
      have h1 := hl.get z.1
      rw [mget_of_mem hn hz] at h1
      have ho' : oldB now z.2 = false := by simpa using ho
      have h1 : mget M z.1 = if oldB now z.2 = true then none else some z.2 := h1
      rw [ho'] at h1
      have := mget_in (show mget M z.1 = some z.2 by rw [h1]; simp)
      exact this
  have h1 := hp.length_eq
  have h2 := List.length_eq_countP_add_countP (fun z : Pr × (Int × Int) => oldB now z.2) (l := L)
  rw [h1, ← List.countP_eq_length_filter]
  have h3 : L.countP (fun z => !oldB now z.2) = L.countP (fun z => decide (¬ oldB now z.2 = true)) := by congr 1; funext z; cases oldB now z.2 <;> rfl
  rw [h3]; omega

theorem gone_cnt {now : Int} {S S' : TS} {n : Int} (o : OldR now S S' n) (hn : ∀ k, k < 8 → ((S.ms k).map Prod.fst).Nodup) : ∀ k, k ≤ 8 → gone S S' k = cntO (oldB now) S k
  | 0, _ => rfl
  | k + 1, hk => by
    show gone S S' k + _ = ((cntO (oldB now) S k + (S.ms k).countP _ : Nat) : Int)
    rw [gone_cnt o hn k (by omega)]
    have := left_count (hn k (by omega)) (o.ms k (by omega))
    push_cast; omega

/-- what holds of the table while it is filled -/
structure Fill (S : TS) (a b : Nat) : Prop where
  conns : S.conns = min a 1024
  rests : S.rests = min b 1024
  keys : ∀ q, Tbl.look S q ≠ none → (∃ j : Nat, j < a ∧ q = ⟨1, 1, 2, j⟩) ∨ ∃ j : Nat, j < b ∧ q = ⟨1, 2, 2, j⟩
  nd : ∀ k, ((S.ms k).map Prod.fst).Nodup
  len : ∀ k, (S.ms k).length ≤ a + b
  cnt : cntO (oldB 50) S 8 = min b 1024

theorem Fill.put {S : TS} {a b : Nat} (f : Fill S a b) {p : Pr} {e : Int × Int} {S' : TS} (hp : Tbl.look S p = none) (he : S'.ms = (S.put p e).ms) {a' b' : Nat} (hab : a' + b' = a + b + 1) (hc : S'.conns = min a' 1024) (hr : S'.rests = min b' 1024)
    (hk : ∀ q, q = p ∨ ((∃ j : Nat, j < a ∧ q = ⟨1, 1, 2, j⟩) ∨ ∃ j : Nat, j < b ∧ q = ⟨1, 2, 2, j⟩) → (∃ j : Nat, j < a' ∧ q = ⟨1, 1, 2, j⟩) ∨ ∃ j : Nat, j < b' ∧ q = ⟨1, 2, 2, j⟩) (ho : cntO (oldB 50) (S.put p e) 8 = min b' 1024) : Fill S' a' b' := by
  have hl : ∀ q, Tbl.look S' q = Tbl.look (S.put p e) q := fun q => by unfold Tbl.look; rw [he]
  have hcn : ∀ k, cntO (oldB 50) S' k = cntO (oldB 50) (S.put p e) k := fun k => by
    induction k with
    | zero => rfl
    | succ k ih => show cntO _ S' k + (S'.ms k).countP _ = cntO _ (S.put p e) k + ((S.put p e).ms k).countP _; rw [ih, he]
  refine ⟨hc, hr, fun q hq => ?_, fun k => ?_, fun k => ?_, by rw [hcn]; exact ho⟩
  · rw [hl, look_put] at hq
    by_cases e : q = p
    · exact hk q (.inl e)
    · rw [if_neg e] at hq; exact hk q (.inr (f.keys q hq))
  · rw [he]
    show ((if k = shard p then mput (S.ms k) p e else S.ms k).map Prod.fst).Nodup
    by_cases hks : k = shard p
    · subst hks
      rw [if_pos rfl, mput_none _ _ _ hp, List.map_append, List.nodup_append]
      refine ⟨f.nd _, by simp, fun x hx y hy => ?_⟩
      simp only [List.map_cons, List.map_nil, List.mem_singleton] at hy
      subst hy
      exact fun e => (mget_mem (S.ms (shard y)) x).2 hx (e ▸ hp)
    · rw [if_neg hks]; exact f.nd k
  · rw [he]
    show (if k = shard p then mput (S.ms k) p e else S.ms k).length ≤ _
    have := f.len k
    by_cases hks : k = shard p
    · subst hks
      rw [if_pos rfl, mput_none _ _ _ hp, List.length_append]; simp only [List.length_singleton]; omega
    · rw [if_neg hks]; omega

theorem min_lt {a : Nat} (h : a < 1024) : ((min a 1024 : Nat) : Int) + 1 = ((min (a + 1) 1024 : Nat) : Int) := by omega

theorem fill_conn {S : TS} {i : Nat} (f : Fill S i 0) (hi : i < 1034) : ∃ c S', putF S ⟨1, 1, 2, i⟩ ((i : Int) + 1) = (c, S') ∧ (c = if i < 1024 then 0 else 6) ∧ Fill S' (i + 1) 0 := by
  have hno : Tbl.look S ⟨1, 1, 2, i⟩ = none := by
    cases h : Tbl.look S ⟨1, 1, 2, i⟩ with
    | none => rfl
    | some x =>
      rcases f.keys ⟨1, 1, 2, i⟩ (by rw [h]; simp) with ⟨j, hj, e⟩ | ⟨j, hj, e⟩
      · have := congrArg Pr.d e; simp at this; omega
      · omega
  rw [putF, if_neg (by omega), if_neg (by rw [hno]; exact Bool.false_ne_true)]
  have hc := f.conns
  by_cases h : i < 1024
  · rw [if_neg (by omega)]
    refine ⟨0, { S.put ⟨1, 1, 2, i⟩ ((i : Int) + 1, 0) with conns := IntKind.i64.wrap (S.conns + 1) }, rfl, by rw [if_pos h], f.put (S' := { S.put ⟨1, 1, 2, i⟩ ((i : Int) + 1, 0) with conns := IntKind.i64.wrap (S.conns + 1) }) (a' := i + 1) (b' := 0) (p := ⟨1, 1, 2, i⟩) (e := ((i : Int) + 1, 0)) hno rfl (by omega) ?_ ?_ (fun q hq => ?_) ?_⟩
    · show IntKind.i64.wrap (S.conns + 1) = _
      rw [wr (by omega) (by omega)]; omega
    · exact f.rests
    · rcases hq with rfl | ⟨j, hj, e⟩ | ⟨j, hj, e⟩
      · exact .inl ⟨i, by omega, rfl⟩
      · exact .inl ⟨j, by omega, e⟩
      · omega
    · rw [cnt_put hno, f.cnt, if_neg (fun hh => by have := hh.2; simp [oldB] at this; omega)]; rfl
  · rw [if_pos (by omega)]
    exact ⟨6, S, rfl, by rw [if_neg h], ⟨by rw [hc]; omega, f.rests, fun q hq => by
      rcases f.keys q hq with ⟨j, hj, e⟩ | ⟨j, hj, e⟩
      · exact .inl ⟨j, by omega, e⟩
      · omega, f.nd, fun k => by have := f.len k; omega, f.cnt⟩⟩

theorem fill_rest {S : TS} {a i : Nat} (f : Fill S a i) (hi : i < 1034) : ∃ c S', restF S ⟨1, 2, 2, i⟩ 50 = (c, S') ∧ (c = if i < 1024 then 0 else 6) ∧ Fill S' a (i + 1) := by
  have hno : Tbl.look S ⟨1, 2, 2, i⟩ = none := by
    cases h : Tbl.look S ⟨1, 2, 2, i⟩ with
    | none => rfl
    | some x =>
      rcases f.keys ⟨1, 2, 2, i⟩ (by rw [h]; simp) with ⟨j, hj, e⟩ | ⟨j, hj, e⟩
      · have := congrArg Pr.b e; simp at this
      · have := congrArg Pr.d e; simp at this; omega
  rw [restF, if_neg (by rw [hno]; exact Bool.false_ne_true)]
  have hr := f.rests
  by_cases h : i < 1024
  · rw [if_neg (by omega), if_neg (by rw [hno]; exact Bool.false_ne_true)]
    refine ⟨0, ({ S with rests := IntKind.i64.wrap (S.rests + 1) } : TS).put ⟨1, 2, 2, i⟩ (0, 50), rfl, by rw [if_pos h], f.put (S' := ({ S with rests := IntKind.i64.wrap (S.rests + 1) } : TS).put ⟨1, 2, 2, i⟩ (0, 50)) (a' := a) (b' := i + 1) (p := ⟨1, 2, 2, i⟩) (e := (0, 50)) hno rfl (by omega) f.conns ?_ (fun q hq => ?_) ?_⟩
    · show IntKind.i64.wrap (S.rests + 1) = _
      rw [wr (by omega) (by omega)]; omega
    · rcases hq with rfl | ⟨j, hj, e⟩ | ⟨j, hj, e⟩
      · exact .inr ⟨i, by omega, rfl⟩
      · exact .inl ⟨j, hj, e⟩
      · exact .inr ⟨j, by omega, e⟩
    · have := shard_lt ⟨1, 2, 2, i⟩
      rw [cnt_put hno, f.cnt, if_pos ⟨this, rfl⟩]; omega
  · rw [if_pos (by omega)]
    exact ⟨6, S, rfl, by rw [if_neg h], ⟨f.conns, by rw [hr]; omega, fun q hq => by
      rcases f.keys q hq with ⟨j, hj, e⟩ | ⟨j, hj, e⟩
      · exact .inl ⟨j, hj, e⟩
      · exact .inr ⟨j, by omega, e⟩, f.nd, fun k => by have := f.len k; omega, by rw [f.cnt]; omega⟩⟩

set_option maxRecDepth 20000 in
theorem law_calls (conns : Int) (w0 : (Lit.int .u16 conns).wf = true) (rests : Int) (w1 : (Lit.int .u16 rests).wf = true) {h : Hp} : XCalls Try.prog 7 [.int .u16 conns, .int .u16 rests] h fun v _ => v = .bool true := by
  refine XCalls.ofWf fun hw => ?_
  refine XCalls.cps fun K hK => ?_
  have hca := lit_bnd w0
  have hra := lit_bnd w1
  simp [IntKind.min, IntKind.max, IntKind.signed, IntKind.bits] at hca hra
  obtain ⟨n, hn, hn1⟩ : ∃ n : Nat, (IntKind.i64.wrap conns).tmod 1034 = (n : Int) ∧ n < 1034 := by
    rw [wr (x := conns) (by omega) (by omega), Int.tmod_eq_emod_of_nonneg (by omega)]; exact ⟨(conns % 1034).toNat, by omega, by omega⟩
  obtain ⟨m, hm, hm1⟩ : ∃ m : Nat, (IntKind.i64.wrap rests).tmod 1034 = (m : Int) ∧ m < 1034 := by
    rw [wr (x := rests) (by omega) (by omega), Int.tmod_eq_emod_of_nonneg (by omega)]; exact ⟨(rests % 1034).toNat, by omega, by omega⟩
  apply x7; unfold X7
  rw [hn, hm]
  refine (new_spec hw).mono ?_
  rintro _ h1 ⟨rfl, F, r1, q1, hF⟩
  generalize h.next + 1 = t at *
  have f0 : Fill newS 0 0 := ⟨rfl, rfl, fun q hq => absurd rfl hq, fun k => by simp [newS], fun k => by simp [newS], rfl⟩
  have w16 : ∀ {i : Nat}, i < 1034 → IntKind.u16.wrap (i : Int) = i := fun {i} hi => by rw [wrap_of]; simp [IntKind.min, IntKind.max, IntKind.signed, IntKind.bits]; omega
  have w64 : ∀ {i : Nat}, i < 1034 → IntKind.u64.wrap (IntKind.u64.wrap (i : Int) + 1) = (i : Int) + 1 := fun {i} hi => by
    have e : IntKind.u64.wrap (i : Int) = i := by rw [wrap_of]; simp [IntKind.min, IntKind.max, IntKind.signed, IntKind.bits]; omega
    rw [e, wrap_of]; simp [IntKind.min, IntKind.max, IntKind.signed, IntKind.bits]; omega
  refine ⟨_, rfl, by omega, by omega, fun vs h' => match vs with
    | [.int _ i] => ∃ (i' : Nat) (S : TS), i = i' ∧ i' ≤ n ∧ Fill S i' 0 ∧ TabR t S h' F ∧ h'.wf
    | _ => False, fun vs _ => match vs with
    | [.int _ i] => n - i.toNat
    | _ => 0, ⟨by trivial, 0, newS, rfl, by omega, f0, r1, q1.wf⟩, ?_⟩
  rintro bs i h2 ⟨i, S, rfl, hi, f, r2, w2⟩
  cases hc : ltI (↑i) (↑n) with
  | true =>
    rw [ltI_eq, decide_eq_true_eq] at hc
    have hwk : IntKind.i64.wrap ((i : Int) + 1) = ((i + 1 : Nat) : Int) := by rw [wr (by omega) (by omega)]; rfl
    rw [w16 (show i < 1034 by omega), w64 (show i < 1034 by omega), hwk]
    refine (pair_new 1 (i : Int)).mono ?_
    rintro _ h3 ⟨rfl, rfl⟩
    refine ⟨1, 1, 2, i, rfl, ?_⟩
    refine (put_spec w2 r2 ⟨1, 1, 2, i⟩ ((i : Int) + 1)).mono ?_
    obtain ⟨c, S', hput, hcv, f'⟩ := fill_conn f (by omega)
    rw [hput]
    rintro _ h4 ⟨rfl, r4, u4, w4⟩
    refine ⟨c, rfl, ?_⟩
    have ms : n - (((i + 1 : Nat) : Int)).toNat < n - ((i : Int)).toNat := by omega
    by_cases hl : i < 1024
    · rw [if_pos hl] at hcv
      subst hcv
      have c2 : ltI (i : Int) 1024 = true := by rw [ltI_eq, decide_eq_true_eq]; omega
      rw [c2]
      exact ⟨by trivial, ⟨i + 1, S', rfl, by omega, f', r4, w4⟩, ms⟩
    · rw [if_neg hl] at hcv
      subst hcv
      have c2 : ltI (i : Int) 1024 = false := by rw [ltI_eq, decide_eq_false_iff_not]; omega
      rw [c2]
      exact ⟨by trivial, ⟨i + 1, S', rfl, by omega, f', r4, w4⟩, ms⟩
  | false =>
  rw [ltI_eq, decide_eq_false_iff_not] at hc
  obtain rfl : i = n := by omega
  refine ⟨fun vs h' => match vs with
    | [.int _ j] => ∃ (j' : Nat) (S : TS), j = j' ∧ j' ≤ m ∧ Fill S i j' ∧ TabR t S h' F ∧ h'.wf
    | _ => False, fun vs _ => match vs with
    | [.int _ j] => m - j.toNat
    | _ => 0, ⟨by trivial, 0, S, rfl, by omega, f, r2, w2⟩, ?_⟩
  rintro bs2 j h3 ⟨j, S2, rfl, hj, f2, r3, w3⟩
  cases hc2 : ltI (↑j) (↑m) with
  | true =>
    rw [ltI_eq, decide_eq_true_eq] at hc2
    have hwk : IntKind.i64.wrap ((j : Int) + 1) = ((j + 1 : Nat) : Int) := by rw [wr (by omega) (by omega)]; rfl
    rw [w16 (show j < 1034 by omega), hwk]
    refine (pair_new 2 (j : Int)).mono ?_
    rintro _ h4 ⟨rfl, rfl⟩
    refine ⟨1, 2, 2, j, rfl, ?_⟩
    refine (rest_spec w3 r3 ⟨1, 2, 2, j⟩ 50).mono ?_
    obtain ⟨c, S', hput, hcv, f'⟩ := fill_rest f2 (by omega)
    rw [hput]
    rintro _ h5 ⟨rfl, r5, u5, w5⟩
    refine ⟨c, rfl, ?_⟩
    have ms : m - (((j + 1 : Nat) : Int)).toNat < m - ((j : Int)).toNat := by omega
    by_cases hl : j < 1024
    · rw [if_pos hl] at hcv
      subst hcv
      have c2 : ltI (j : Int) 1024 = true := by rw [ltI_eq, decide_eq_true_eq]; omega
      rw [c2]
      exact ⟨by trivial, ⟨j + 1, S', rfl, by omega, f', r5, w5⟩, ms⟩
    · rw [if_neg hl] at hcv
      subst hcv
      have c2 : ltI (j : Int) 1024 = false := by rw [ltI_eq, decide_eq_false_iff_not]; omega
      rw [c2]
      exact ⟨by trivial, ⟨j + 1, S', rfl, by omega, f', r5, w5⟩, ms⟩
  | false =>
  rw [ltI_eq, decide_eq_false_iff_not] at hc2
  obtain rfl : j = m := by omega
  have mn : ∀ x : Nat, (bif ltI 1024 (x : Int) then (1024 : Int) else x) = ((min x 1024 : Nat) : Int) := fun x => by
    cases c : ltI 1024 (x : Int) with
    | true => rw [ltI_eq, decide_eq_true_eq] at c; simp only [cond_true]; omega
    | false => rw [ltI_eq, decide_eq_false_iff_not] at c; simp only [cond_false]; omega
  rw [mn, mn]
  have hcs := f2.conns
  have hrs := f2.rests
  refine (conns_spec r3).mono ?_
  rintro _ h4 ⟨rfl, rfl⟩
  refine ⟨_, rfl, ?_⟩
  have e1 : (S2.conns != ((min i 1024 : Nat) : Int)) = false := by rw [hcs]; simp
  rw [e1]
  refine (rests_spec r3).mono ?_
  rintro _ h5 ⟨rfl, rfl⟩
  refine ⟨_, rfl, ?_⟩
  have e2 : (S2.rests != ((min j 1024 : Nat) : Int)) = false := by rw [hrs]; simp
  rw [e2]
  refine (old_spec w3 r3 50 (fun k _ => f2.nd k) (fun k _ => by have := f2.len k; omega) (by omega)).mono ?_
  rintro _ h6 ⟨S', rfl, ho, r6, u6, w6⟩
  refine ⟨_, rfl, ?_⟩
  have e3 : (gone S2 S' 8 != ((min j 1024 : Nat) : Int)) = false := by rw [gone_cnt ho (fun k _ => f2.nd k) 8 (Nat.le_refl _), f2.cnt]; simp
  rw [e3]
  simp only [cond_false]
  have pn : ∀ {h : Hp}, XCalls Try.prog 27 [.int .u16 1, .int .u16 1] h fun v h' => v = pr11 ∧ h' = h := pair_new 1 1
  refine pn.mono ?_
  rintro _ h7 ⟨rfl, rfl⟩
  refine ⟨1, 1, 2, 1, rfl, ?_⟩
  refine find_nil.mono ?_
  rintro _ h8 ⟨rfl, rfl⟩
  refine ⟨0, 0, rfl, ?_⟩
  refine pn.mono ?_
  rintro _ h9 ⟨rfl, rfl⟩
  refine ⟨1, 1, 2, 1, rfl, ?_⟩
  refine put_nil.mono ?_
  rintro _ h10 ⟨rfl, rfl⟩
  refine ⟨1, rfl, ?_⟩
  refine pn.mono ?_
  rintro _ h11 ⟨rfl, rfl⟩
  refine ⟨1, 1, 2, 1, rfl, ?_⟩
  refine rest_nil.mono ?_
  rintro _ h12 ⟨rfl, rfl⟩
  refine ⟨1, rfl, ?_⟩
  refine listen_nil.mono ?_
  rintro _ h13 ⟨rfl, rfl⟩
  refine ⟨1, rfl, ?_⟩
  rintro h14 rfl
  refine deaf_nil.mono ?_
  rintro _ h15 rfl
  refine ⟨0, rfl, ?_⟩
  refine old_nil.mono ?_
  rintro _ h16 ⟨rfl, rfl⟩
  refine ⟨0, rfl, ?_⟩
  refine conns_nil.mono ?_
  rintro _ h17 ⟨rfl, rfl⟩
  refine ⟨0, rfl, ?_⟩
  refine rests_nil.mono ?_
  rintro _ h18 ⟨rfl, rfl⟩
  refine ⟨0, rfl, ?_⟩
  exact works_spec fun h' => ⟨_, rfl, hK _ _ rfl⟩
end Go.Vex.TableFull

namespace Go.Proofs.Yteknlobdnjcdbaa.tableFull
open Go.ChangeShapes Go.WideShapes Go.ChangeAt Go.RowKit Go.Vex Go.Vex.TableFull
open Go.ChangeMaps (open_string shut_string)

theorem own : ownKnob Try.prog.godebug = none := by kernel_rfl

set_option maxRecDepth 100000 in
theorem lifted (os : Os) (started : os.Started) (H : Type) (enc : TypeId × Value → H) :
    ReturnsInHanded {} Try.checked os 7 .any (Rows.tableFullSpec.pre6 enc Try.prog Try.f7 Rows.tableFullRow.domain false) (Rows.tableFullSpec.post enc Try.prog Try.f7 false true false false) := by
  refine returnsInHanded_of_change_sized (C := Try.checked) own started (by kernel_rfl) Try.func7
    (ChangeSpec.witness6 (enc := enc) (C := Try.checked) false ⟨#[], #[.int .u16 0, .int .u16 0], []⟩ 8 (by kernel_rfl) (by kernel_rfl) (by kernel_rfl) (by kernel_rfl)) ?_
  intro W base args ds gs before hval0 hW hcnd hsz _
  have hval : ∀ (j : Nat) t v, Try.f7.params[j]? = some t → args[j]? = some v → Value.okWide Try.prog W .any base t v := hval0
  have hW' := hW
  obtain ⟨p, q, hA0, hV, rfl, hfz, hnd⟩ := hW
  have hA : DataW.TrodAll enc Try.prog W 0 (fun _ => true) true Try.f7.params.toList args.toList ds p := hA0
  rw [Try.params7] at hA hval hsz
  obtain ⟨v0, vs0, d0, ds0, p0, q0, hargs, rfl, rfl, h0, r0⟩ := trodAll_cons hA
  obtain ⟨v1, vs1, d1, ds1, p1, q1, rfl, rfl, rfl, h1, r1⟩ := trodAll_cons r0
  obtain ⟨rfl, rfl, rfl⟩ := trodAll_nil r1
  obtain rfl : args = #[v0, v1] := by cases args; simp_all
  obtain ⟨rfl, rfl⟩ := trodVars_none hV
  obtain ⟨a0, rfl, rfl, rfl, w0⟩ := open_int Try.underlying29 (hval 0 29 v0 rfl rfl) h0
  obtain ⟨a1, rfl, rfl, rfl, w1⟩ := open_int Try.underlying29 (hval 1 29 v1 rfl rfl) h1
  refine (XCalls.true' (Sat.none W fun _ => ⟨0, 0, 0, 0⟩) (vs := [.int .u16 a0, .int .u16 a1]) ⟨_, _, rfl, rfl, ⟨_, _, rfl, rfl, rfl⟩⟩ (law_calls a0 w0 a1 w1)).mono fun e W' ⟨he, hb⟩ => ?_
  subst he
  exact ⟨_, rfl, post_true (by kernel_rfl) hW' hb rfl (fun gs hg => by subst hg; rfl) (tb := 4) rfl Try.underlying4 (by decide +kernel)⟩

theorem over : Rows.tableFullRow.holds Try.pinned (OpenSpec.ofChange Rows.tableFullSpec) :=
  OpenClaim.holds_of_wide 7 Try.f7 rfl rfl rfl rfl rfl rfl rfl ⟨rfl, rfl, rfl, rfl, rfl⟩ rfl rfl rfl rfl rfl (by kernel_rfl) Try.func7 (by kernel_rfl)
    (of_decide_eq_true (by kernel_rfl)) (by unfold Func.isWrapper; first | (rw [if_pos (by decide +kernel)]; kernel_rfl) | (rw [if_neg (by decide +kernel)]; exact ⟨rfl, rfl⟩))
    (fun os started H enc _ => lifted os started H enc)

theorem proved : Rows.TableFullSaid :=
  over
#print axioms proved
end Go.Proofs.Yteknlobdnjcdbaa.tableFull

