/-
  PoolAll of layer 17: whatever is given, how many buffers there are and which one is another holder's, the law returns true and leaves the input as it was. No condition.
-/
import Derived.Test.YteblfacfbmlceaaVexAA
import Derived.Test.YteblfacfbmlceaaTab17
import Derived.Test.YteblfacfbmlceaaXa17
import Derived.Test.YteblfacfbmlceaaCa17
import Derived.Test.YteblfacfbmlceaaCb17
import Derived.Test.YteblfacfbmlceaaXb17
import Derived.Test.YteblfacfbmlceaaRows
import Derived.WalkKit
import Derived.ProofKit
import Derived.OpenShut
import Derived.KernelRfl
set_option linter.unusedVariables false
set_option linter.unusedSimpArgs false
namespace Go.Vex.PoolAll
open Go.Proofs

set_option maxRecDepth 100000 in
theorem works_ev : (ev Vex.T Vex.F (fun _ => []) 100000).call 9 [] h0 isT = true := by kernel_rfl

theorem works_spec {h : Hp} {K : V → Hp → Prop} (hk : ∀ h', K (.bool true) h') : XCalls Try.prog 9 [] h K :=
  (XCalls.fresh (K := fun v => v = .bool true) rfl (fun v hv => by subst hv; rfl) (XCalls.ev tok fok mixed (fun _ => []) 100000 works_ev fun _ _ hv => isT_spec hv)).mono fun v h' hv => by rw [hv.1]; exact hk h'

theorem giveCode_zero (L : List Buf) (who : List UInt8) : ∀ (xs seen : List Int), giveCode L who seen xs = 0 ↔ xs.Nodup ∧ (∀ x ∈ xs, x ∉ seen ∧ ofCode L x who = 0)
  | [], seen => by simp [giveCode]
  | x :: xs, seen => by
    simp only [giveCode]
    by_cases h1 : x ∈ seen
    · rw [if_pos h1]
      constructor
      · intro h; omega
      · intro h; exact absurd h1 (h.2 x (by simp)).1
    · rw [if_neg h1]
      by_cases h2 : ofCode L x who = 0
      · rw [if_pos h2, giveCode_zero L who xs (seen ++ [x])]
        constructor
        · rintro ⟨h3, h4⟩
          refine ⟨List.nodup_cons.2 ⟨fun h => ?_, h3⟩, fun y hy => ?_⟩
          · exact (h4 x h).1 (by simp)
          · rcases List.mem_cons.1 hy with rfl | hy
            · exact ⟨h1, h2⟩
            · exact ⟨fun h => (h4 y hy).1 (by simp [h]), (h4 y hy).2⟩
        · rintro ⟨h3, h4⟩
          rw [List.nodup_cons] at h3
          refine ⟨h3.2, fun y hy => ⟨fun h => ?_, (h4 y (by simp [hy])).2⟩⟩
          rcases List.mem_append.1 h with h | h
          · exact (h4 y (by simp [hy])).1 h
          · rw [List.mem_singleton] at h; exact h3.1 (h ▸ hy)
      · rw [if_neg h2]
        constructor
        · intro h; exact absurd h h2
        · intro h; exact absurd (h.2 x (by simp)).2 h2

theorem bdel_len {L : List Buf} {id : Int} (hn : (L.map Buf.id).Nodup) (hm : id ∈ L.map Buf.id) : (bdel L id).length + 1 = L.length := by
  induction L with
  | nil => simp at hm
  | cons x L ih =>
    rw [List.map_cons, List.nodup_cons] at hn
    simp only [bdel, List.filter_cons]
    by_cases e : x.id = id
    · have : L.filter (fun x => decide (x.id ≠ id)) = L := by
        apply List.filter_eq_self.2
        intro y hy
        simp only [decide_eq_true_eq]
        exact fun e' => hn.1 (by rw [e, ← e']; exact List.mem_map_of_mem hy)
      simp only [ne_eq, e, not_true_eq_false, decide_false, Bool.false_eq_true, if_false, List.length_cons]
      simp only [ne_eq] at this
      rw [this]
    · have hm' : id ∈ L.map Buf.id := by
        rw [List.map_cons, List.mem_cons] at hm
        rcases hm with hm | hm
        · exact absurd hm.symm e
        · exact hm
      have := ih hn.2 hm'
      simp only [bdel] at this
      simp only [ne_eq, e, not_false_eq_true, decide_true, if_true, List.length_cons] at this ⊢
      omega

theorem bdel_all : ∀ (xs : List Int) (L : List Buf), (L.map Buf.id).Nodup → xs.Nodup → (∀ x ∈ xs, x ∈ L.map Buf.id) → (xs.foldl bdel L).length + xs.length = L.length
  | [], L, _, _, _ => rfl
  | x :: xs, L, hn, hx, hm => by
    rw [List.nodup_cons] at hx
    have h1 := bdel_len hn (hm x (by simp))
    have := bdel_all xs (bdel L x) (bdel_nodup hn) hx.2 (fun y hy => by
      obtain ⟨b, hb, rfl⟩ := List.mem_map.1 (hm y (by simp [hy]))
      refine List.mem_map_of_mem (List.mem_filter.2 ⟨hb, ?_⟩)
      simp only [decide_eq_true_eq]
      exact fun e => hx.1 (e ▸ hy))
    simp only [List.foldl_cons, List.length_cons]
    omega

theorem mget_mput (l : List (Int × Int)) (x y v : Int) : mget (mput l x v) y = if y = x then some v else mget l y := by
  induction l with
  | nil =>
    simp only [mput, mget, List.find?_cons, List.find?_nil]
    by_cases e : y = x <;> simp [e]
  | cons z l ih =>
    simp only [mput]
    by_cases e : x = z.1
    · rw [if_pos e]
      simp only [mget, List.find?_cons] at ih ⊢
      by_cases e2 : y = z.1
      · simp [e2, e]
      · simp only [e2, decide_false]
        rw [if_neg (by rw [e]; exact e2)]
    · rw [if_neg e]
      simp only [mget, List.find?_cons] at ih ⊢
      by_cases e2 : y = z.1
      · simp only [e2, decide_true, Option.map_some]
        rw [if_neg (fun h => e h.symm)]
      · simp only [e2, decide_false]
        exact ih

theorem mput_len (l : List (Int × Int)) (x v : Int) : (mget l x = none ∧ (mput l x v).length = l.length + 1) ∨ (mget l x ≠ none ∧ (mput l x v).length = l.length) := by
  induction l with
  | nil => exact .inl ⟨rfl, rfl⟩
  | cons z l ih =>
    by_cases e : x = z.1
    · refine .inr ⟨by simp [mget, e], by simp [mput, e]⟩
    · have hg : mget (z :: l) x = mget l x := by simp [mget, e]
      have hp : (mput (z :: l) x v).length = (mput l x v).length + 1 := by simp [mput, e]
      rw [hg, hp]
      rcases ih with ⟨h1, h2⟩ | ⟨h1, h2⟩
      · exact .inl ⟨h1, by rw [h2]; rfl⟩
      · exact .inr ⟨h1, by rw [h2]; rfl⟩

/-- what is known of the counts of what was seen -/
structure Seen (xs : List Int) (l : List (Int × Int)) : Prop where
  no : ∀ y, mget l y = none ↔ y ∉ xs
  few : ∀ y v, mget l y = some v → 1 ≤ v ∧ v ≤ xs.length
  len : l.length ≤ xs.length
  one : l.length = xs.length ↔ xs.Nodup

theorem Seen.nil : Seen [] [] := ⟨by simp [mget], by simp [mget], by simp, by simp⟩

theorem Seen.add {xs : List Int} {l : List (Int × Int)} (s : Seen xs l) (x : Int) : Seen (xs ++ [x]) (mput l x ((mget l x).getD 0 + 1)) where
  no := fun y => by
    rw [mget_mput]
    by_cases e : y = x
    · simp [e]
    · rw [if_neg e, s.no y]; simp [e]
  few := fun y v h => by
    rw [mget_mput] at h
    by_cases e : y = x
    · rw [if_pos e] at h
      cases h
      cases hx : mget l x with
      | none => simp; omega
      | some w => have := s.few x w hx; simp; omega
    · rw [if_neg e] at h
      have := s.few y v h
      simp; omega
  len := by
    have := s.len
    rcases mput_len l x ((mget l x).getD 0 + 1) with ⟨h1, h2⟩ | ⟨h1, h2⟩ <;> rw [h2] <;> simp <;> omega
  one := by
    rw [List.nodup_append]
    have h1 := s.len
    have h2 := s.no x
    have h3 := s.one
    rcases mput_len l x ((mget l x).getD 0 + 1) with ⟨hx, hl⟩ | ⟨hx, hl⟩
    · rw [hl]
      have hx' := h2.1 hx
      simp only [List.length_append, List.length_cons, List.length_nil]
      constructor
      · intro h
        refine ⟨h3.1 (by omega), by simp, ?_⟩
        intro a ha b hb
        rw [List.mem_singleton] at hb
        intro e
        exact hx' (by rw [← hb, ← e]; exact ha)
      · intro h
        have := h3.2 h.1
        omega
    · rw [hl]
      have hx' : x ∈ xs := Classical.byContradiction fun h => hx (h2.2 h)
      simp only [List.length_append, List.length_cons, List.length_nil]
      constructor
      · intro h; omega
      · intro h; exact absurd rfl (h.2.2 x hx' x (by simp))

theorem t31 : ∃ ti, T 31 = some ti ∧ ti.d = .slc 28 := ⟨_, rfl, rfl⟩
theorem t28 : ∃ ei, T 28 = some ei ∧ ei.size = 1 ∧ ei.bytes = 8 ∧ zok ei = true := ⟨_, rfl, rfl, rfl, rfl⟩

def X : List UInt8 := [120]
def A : List UInt8 := [97]

/-- the pool behind k Takes -/
def Filled (k : Nat) (L : List Buf) : Prop := L.length = k ∧ (L.map Buf.id).Nodup ∧ (∀ x ∈ L, 1 ≤ x.id ∧ x.id ≤ k) ∧ (∀ i : Int, 1 ≤ i → i ≤ k → ∃ x ∈ L, x.id = i) ∧ ∀ x ∈ L, x.who = X

theorem Filled.add {k : Nat} {L : List Buf} (f : Filled k L) (o : Nat) : Filled (k + 1) (L ++ [⟨(k : Int) + 1, X, A, o⟩]) := by
  obtain ⟨h1, h2, h3, h4, h5⟩ := f
  refine ⟨by simp [h1], ?_, ?_, ?_, ?_⟩
  · rw [List.map_append, List.nodup_append]
    refine ⟨h2, by simp, ?_⟩
    intro a ha b hb
    simp at hb
    obtain ⟨x, hx, rfl⟩ := List.mem_map.1 ha
    have := h3 x hx
    omega
  · intro x hx
    rcases List.mem_append.1 hx with hx | hx
    · have := h3 x hx; omega
    · rw [List.mem_singleton] at hx; subst hx; simp only; omega
  · intro i hi hk
    by_cases e : i ≤ k
    · obtain ⟨x, hx, hxi⟩ := h4 i hi e
      exact ⟨x, by simp [hx], hxi⟩
    · exact ⟨⟨(k : Int) + 1, X, A, o⟩, by simp, by simp only; omega⟩
  · intro x hx
    rcases List.mem_append.1 hx with hx | hx
    · exact h5 x hx
    · rw [List.mem_singleton] at hx; subst hx; rfl

/-- who has what behind the Move -/
def moved (L : List Buf) (m : Bool) (i : Int) : List Buf := if m then bset L i (Buf.give [121]) else L

theorem moved_ids (L : List Buf) (m : Bool) (i : Int) : (moved L m i).map Buf.id = L.map Buf.id := by
  unfold moved
  split
  · have := congrArg (List.map Prod.fst) (bset_ids L i (Buf.give [121]) (fun _ => ⟨rfl, rfl⟩))
    rw [List.map_map, List.map_map] at this
    exact this
  · rfl

theorem moved_code {k : Nat} {L : List Buf} (f : Filled k L) (m : Bool) (i x : Int) (hx : 1 ≤ x ∧ x ≤ k) : ofCode (moved L m i) x X = 0 ↔ ¬ (m = true ∧ x = i) := by
  obtain ⟨h1, h2, h3, h4, h5⟩ := f
  obtain ⟨b, hb, rfl⟩ := h4 x hx.1 hx.2
  have hnd : ((moved L m i).map Buf.id).Nodup := by rw [moved_ids]; exact h2
  have hmem : (if m = true ∧ b.id = i then Buf.give [121] b else b) ∈ moved L m i := by
    unfold moved
    cases m with
    | false => simpa using hb
    | true =>
      simp only [if_true, true_and]
      unfold bset
      exact List.mem_map.2 ⟨b, hb, by split <;> rfl⟩
  have hid : (if m = true ∧ b.id = i then Buf.give [121] b else b).id = b.id := by split <;> rfl
  have := bfind_self hnd hmem
  rw [hid] at this
  unfold ofCode
  rw [this]
  simp only
  by_cases e : m = true ∧ b.id = i
  · simp only [if_pos e]
    rw [if_neg (by simp [Buf.give, X])]
    simp [e]
  · simp only [if_neg e]
    rw [if_pos (h5 b hb)]
    simp [e]

def rowsOf (xs : List Int) : List (List V) := xs.map fun x => [.int .u64 x]

theorem rows_flat (xs : List Int) : (rowsOf xs).flatten = xs.map fun x => .int .u64 x := by
  induction xs with
  | nil => rfl
  | cons x xs ih => simp only [rowsOf, List.map_cons, List.flatten_cons] at ih ⊢; rw [ih]; rfl

theorem own_ints {a : Option (Nat × Nat)} {n : Nat} {xs : List Int} {h : Hp} {F G : List Nat} (ho : Own 1 a n (rowsOf xs) h G) (hd : ∀ j ∈ G, j ∉ F) : IntsAt .u64 a n xs h F := by
  obtain ⟨h1, h2, h3⟩ := ho
  refine ⟨by simpa [rowsOf] using h1, fun hn => ?_⟩
  cases a with
  | none =>
    have : (rowsOf xs).length = 0 := by rw [h3.1]; rfl
    omega
  | some p =>
    obtain ⟨q, o⟩ := p
    obtain ⟨rfl, front, rfl, hg⟩ := h3
    refine ⟨q, front.length, _, _, _, rfl, hd q (by simp), hg, fun k hk => ?_⟩
    rw [List.getElem?_append_right (by omega), rows_flat, List.getElem?_map]
    congr 2; omega

/-- pool, numbers, counts -/
structure St3 (h0 : Hp) (p sm : Nat) (N : Int) (L : List Buf) (xs : List Int) (sl : List (Int × Int)) (a2 : Option (Nat × Nat)) (n2 : Nat) (F G : List Nat) (h : Hp) : Prop where
  pool : PoolR p N N L h F
  ids : Own 1 a2 n2 (rowsOf xs) h G
  map : MapIs kI kC sl sm h [sm]
  seen : Seen xs sl
  dFG : ∀ j ∈ F, j ∉ G
  dFs : ∀ j ∈ F, j ∉ [sm]
  dGs : ∀ j ∈ G, j ∉ [sm]
  keeps : h0.keeps h
  wf : h.wf

def LI2 (h0 : Hp) (p sm : Nat) (N : Int) (L : List Buf) (n : Nat) (fx : Nat → Int) : List V → Hp → Prop
  | [.slc a2 n2 _, .int _ i], h => ∃ k : Nat, i = k ∧ k ≤ n ∧ ∃ sl F G, St3 h0 p sm N L ((List.range k).map fx) sl a2 n2 F G h
  | _, _ => False

theorem law_calls (most : Int) (w0 : (Lit.int .u8 most).wf = true) {h : Hp} {a : Option (Nat × Nat)} {n : Nat} {f : Bool} {rows : List (List V)} (ha : RoSlc h a n rows 1)
    (hr0 : ∀ r ∈ rows, shpBs [.int .u8 0] r = true ∧ ∀ v ∈ r, v.fits) (hbz : n * Try.prog.bytesOf 5 ≤ reachBytes) (odd : Int) (w2 : (Lit.int .u8 odd).wf = true) : XCalls Try.prog 3 [.int .u8 most, .slc a n f, .int .u8 odd] h fun v _ => v = .bool true := by
  have hz : ∀ r ∈ rows, r.length = 1 := fun r h => shpBs_length (hr0 r h).1
  simp [Lit.wf, IntKind.min, IntKind.max, IntKind.signed, IntKind.bits] at w0 w2
  refine XCalls.ofWf fun hw => ?_
  apply x3
  unfold X3
  obtain ⟨N, hN⟩ : ∃ N : Nat, (N : Int) = most % 20 + 1 := ⟨(most % 20 + 1).toNat, by omega⟩
  have hN1 : 1 ≤ N ∧ N ≤ 20 := by omega
  have e0 : most.tmod 20 = most % 20 := Int.tmod_eq_emod_of_nonneg (by omega)
  have e1 : IntKind.i64.wrap (most % 20) = most % 20 := wrap_of (by simp [IntKind.min, IntKind.max, IntKind.signed, IntKind.bits]; omega)
  have e2 : IntKind.i64.wrap (most % 20 + 1) = N := by rw [wrap_of (by simp [IntKind.min, IntKind.max, IntKind.signed, IntKind.bits]; omega)]; omega
  have e3 : IntKind.u64.wrap N = N := wrap_of (by simp [IntKind.min, IntKind.max, IntKind.signed, IntKind.bits]; omega)
  simp only [e0, e1, e2, e3]
  refine ⟨by omega, (new_spec (by omega)).mono' ?_⟩
  rintro _ h1 hle1 hw1 ⟨rfl, hp1, u1⟩
  refine ⟨_, _, rfl, ?_⟩
  simp only [bne_self_eq_false, cond_false, Option.isNone_some]
  cases hc : ltI 40 (↑n) with
  | true => simp only [cond_true]; exact works_spec fun _ => ⟨true, rfl, rfl⟩
  | false =>
    rw [ltI_eq, decide_eq_false_iff_not] at hc
    simp only [cond_false]
    have hk1 : h.keeps h1 := by intro q c e hq; rw [u1.same q (hw.lt hq) (by simp)]; exact hq
    refine ⟨fun vs g => match vs with
      | [.int _ i] => ∃ k : Nat, i = k ∧ k ≤ N ∧ ∃ L F, PoolR (h.next + 1) N k L g F ∧ Filled k L ∧ h.keeps g ∧ g.wf
      | _ => False, fun vs _ => match vs with
      | [.int _ i] => N - i.toNat
      | _ => 0, ⟨(by trivial), 0, rfl, Nat.zero_le _, [], _, hp1, ⟨rfl, by simp, by simp, fun i h1 h2 => by omega, by simp⟩, hk1, hw1⟩, ?_⟩
    rintro bs i g ⟨k, rfl, hkN, L, F, hp, hfill, hkp, hgw⟩
    cases hi : ltI (↑k) (↑N) with
    | true =>
      rw [ltI_eq, decide_eq_true_eq] at hi
      refine (take_spec (who := X) (text := A) hgw hp (fun x hx => hfill.2.2.1 x hx) (by omega)).mono' ?_
      rintro v h5 hle5 hw5 ⟨F', u5, hres⟩
      have hcode : takeCode N L.length X A = 0 := by
        unfold takeCode
        rw [if_neg (by simp [X]), if_neg (by simp [A]), if_neg (by rw [hfill.1]; omega)]
      rw [if_pos hcode] at hres
      obtain ⟨rfl, o, hp5⟩ := hres
      refine ⟨_, _, rfl, ?_⟩
      simp only [bne_self_eq_false, cond_false]
      have hw1' := wrap_succ (k := k) (n := N) (by omega) (by omega)
      refine ⟨(by trivial), ⟨k + 1, hw1', by omega, _, F', hp5, hfill.add o, Upd.keeps (PoolR.rep _ _ _ _) hgw hp u5 hkp, hw5⟩, ?_⟩
      show N - Int.toNat (IntKind.i64.wrap ((k : Int) + 1)) < N - Int.toNat (k : Int)
      rw [hw1']; simp only [Int.toNat_natCast]; omega
    | false =>
      rw [ltI_eq, decide_eq_false_iff_not] at hi
      obtain rfl : k = N := by omega
      refine (take_spec (who := X) (text := A) hgw hp (fun x hx => hfill.2.2.1 x hx) (by omega)).mono' ?_
      rintro v h6 hle6 hw6 ⟨F6, u6, hres⟩
      have hcode : takeCode k L.length X A = 6 := by
        unfold takeCode
        rw [if_neg (by simp [X]), if_neg (by simp [A]), if_pos (by rw [hfill.1]; omega)]
      rw [hcode, if_neg (by omega)] at hres
      obtain ⟨rfl, hp6⟩ := hres
      refine ⟨_, _, rfl, ?_⟩
      simp only [bne_self_eq_false, cond_false]
      rintro h7 rfl
      have hkp6 := Upd.keeps (PoolR.rep _ _ _ _) hgw hp u6 hkp
      have hst7 : ∀ x, ∀ j, j < h6.next → (h6.alloc x).get j = h6.get j := fun x j hj => Hp.get_alloc_ne (by omega)
      generalize hsm : h6.next = sm at *
      have hF6 : ∀ j ∈ F6, j < sm := fun j hj => by rw [← hsm]; exact (PoolR.rep _ _ _ _).lt hw6 hp6 hj
      let fx : Nat → Int := fun j => (match rows[j]? with | some [.int _ b] => b | _ => 0) % k + 1
      refine ⟨LI2 h (h.next + 1) sm k L n fx, fun vs _ => match vs with
        | [_, .int _ i] => n - i.toNat
        | _ => 0, ⟨(by trivial), 0, rfl, Nat.zero_le _, [], F6, [], (PoolR.rep _ _ _ _).stay hw6 hp6 (by rw [hsm]; exact hst7 _), Own.nil 1 _, by rw [← hsm]; exact MapIs.nil kI kC h6, Seen.nil, by simp, fun j hj hs => by rw [List.mem_singleton] at hs; have := hF6 j hj; omega, by simp, hkp6.stay hw6 (by rw [hsm]; exact hst7 _), hw6.alloc⟩, ?_⟩
      rintro bs2 a2 n7 f1 i2 g2 ⟨j, rfl, hj, sl, F, G, st⟩
      have hFlt : ∀ z ∈ F, z < g2.next := fun z hz => (PoolR.rep _ _ _ _).lt st.wf st.pool hz
      have hGlt : ∀ z ∈ G, z < g2.next := fun z hz => (Own.rep _ _ _ _).lt st.wf st.ids hz
      have hslt : sm < g2.next := (MapIs.rep _ _ _ _).lt st.wf st.map (by simp)
      have hn7 : n7 = j := by have := st.ids.1; simpa [rowsOf] using this.symm
      cases hlt : ltI (↑j) (↑n) with
      | true =>
        rw [ltI_eq, decide_eq_true_eq] at hlt
        obtain ⟨q, row, rfl, hrow, hld, _⟩ := ha.ld st.keeps (k := j) (by omega) hz
        have hform := hr0 row (List.mem_of_getElem? hrow)
        obtain ⟨b, rfl⟩ : ∃ b, row = [.int .u8 b] := allSs_spec [.int .u8 0] row (k := fun r => ∃ x, r = [.int .u8 x]) (fun x => ⟨x, rfl⟩) hform.1
        have hb := hform.2 (.int .u8 b) (by simp)
        simp [V.fits, IntKind.min, IntKind.max, IntKind.signed, IntKind.bits] at hb
        have hfx : fx j = b % k + 1 := by simp only [fx, hrow]
        have hmod : 0 ≤ b % (k : Int) ∧ b % (k : Int) < k := ⟨Int.emod_nonneg _ (by omega), Int.emod_lt_of_pos _ (by omega)⟩
        have e5 : IntKind.u64.wrap b = b := wrap_of (by simp [IntKind.min, IntKind.max, IntKind.signed, IntKind.bits]; omega)
        have e6 : b.tmod k = b % k := Int.tmod_eq_emod_of_nonneg (by omega)
        have e7 : IntKind.u64.wrap (b % k + 1) = fx j := by rw [wrap_of (by simp [IntKind.min, IntKind.max, IntKind.signed, IntKind.bits]; omega), hfx]
        obtain ⟨ti, ht, hd⟩ := t32
        obtain ⟨ei, he, hz0⟩ := t3
        have hxl : ((List.range j).map fx).length = j := by simp
        have hlook : xlook T g2 32 (.map (some sm)) (.int .u64 (fx j)) false = some (.int .i64 ((mget sl (fx j)).getD 0)) := by
          have := st.map.look (K := kI28) ht hd he hz0 (fx j) false
          rw [show V.int .u64 (fx j) = kI (fx j) from rfl, this]
          cases mget sl (fx j) <;> rfl
        have hcnt : 0 ≤ (mget sl (fx j)).getD 0 ∧ (mget sl (fx j)).getD 0 ≤ j := by
          cases hm : mget sl (fx j) with
          | none => simp
          | some v => have := st.seen.few _ v hm; rw [hxl] at this; simp; omega
        have e8 : IntKind.i64.wrap ((mget sl (fx j)).getD 0 + 1) = (mget sl (fx j)).getD 0 + 1 := wrap_of (by simp [IntKind.min, IntKind.max, IntKind.signed, IntKind.bits]; omega)
        obtain ⟨g3, hx3, hm3, hs3, hn3⟩ := st.map.put kI28 ht hd (fx j) ((mget sl (fx j)).getD 0 + 1)
        have hw1' := wrap_succ (k := j) (n := n) (by omega) (by omega)
        have hw3 : g3.wf := by
          intro q' o' hq'
          rw [hn3]
          by_cases e : q' = sm
          · omega
          · rw [hs3 q' e] at hq'; exact st.wf _ _ hq'
        have hp3 := (PoolR.rep _ _ _ _).loc _ _ _ (fun z hz => hs3 z (fun e => st.dFs z hz (by simp [e]))) st.pool
        have ho3 := (Own.rep _ _ _ _).loc _ _ _ (fun z hz => hs3 z (fun e => st.dGs z hz (by simp [e]))) st.ids
        have hk3 : h.keeps g3 := by
          intro z c e hz
          have h9 := st.keeps z c e hz
          rw [hs3 z]
          · exact h9
          · intro e2
            subst e2
            obtain ⟨_, es, clk, hg, _⟩ := st.map
            rw [hg] at h9; cases h9
        refine ⟨⟨by omega, hlt⟩, b, hld 0 (by omega), by omega, ?_⟩
        simp only [e5, e6, e7]
        refine ⟨_, hlook, g3, by rw [e8]; exact hx3, ?_⟩
        rintro g4 rfl
        have hst4 : ∀ x, ∀ z, z < g3.next → (g3.alloc x).get z = g3.get z := fun x z hz => Hp.get_alloc_ne (by omega)
        obtain ⟨ti2, ht2, hd2⟩ := t31
        obtain ⟨ei2, he2, es2, eb2, ez2⟩ := t28
        have hp4 := (PoolR.rep _ _ _ _).stay hw3 hp3 (hst4 (.row [.int .u64 (fx j)] 1 false))
        have ho4 := (Own.rep _ _ _ _).stay hw3 ho3 (hst4 (.row [.int .u64 (fx j)] 1 false))
        have hm4 := (MapIs.rep _ _ _ _).stay hw3 hm3 (hst4 (.row [.int .u64 (fx j)] 1 false))
        have hk4 := hk3.stay hw3 (hst4 (.row [.int .u64 (fx j)] 1 false))
        obtain ⟨g5, hx5, ho5, u5, hw5⟩ := ho4.app (f := f1) (u := 31) (y := .slc (some (g3.next, 0)) 1 true) (news := [[.int .u64 (fx j)]]) hw3.alloc ht2 hd2 ht2 (by intro k; rw [hd2]; exact fun h => by cases h) he2 es2 (by omega) ez2
          (xnews_one Hp.get_alloc_self rfl) (by simp) (by simp) (by rw [eb2]; simp; omega) (by simp; omega)
        obtain ⟨hp5, hd5⟩ := Upd.frame (PoolR.rep _ _ _ _) hw3.alloc hp4 u5 (fun z hz hF => st.dFG z hF hz)
        obtain ⟨hm5, hd5'⟩ := Upd.frame (MapIs.rep _ _ _ _) hw3.alloc hm4 u5 st.dGs
        refine ⟨_, _, _, g5, hx5, (by trivial), ⟨j + 1, hw1', by omega, _, F, _, ⟨hp5, ?_, hm5, ?_, fun z hz hG => hd5 z hG hz, st.dFs, hd5', Upd.keeps (Own.rep _ _ _ _) hw3.alloc ho4 u5 hk4, hw5⟩⟩, ?_⟩
        · have : rowsOf ((List.range (j + 1)).map fx) = rowsOf ((List.range j).map fx) ++ [[.int .u64 (fx j)]] := by simp [rowsOf, List.range_succ]
          rw [this]; simpa using ho5
        · have : (List.range (j + 1)).map fx = (List.range j).map fx ++ [fx j] := by simp [List.range_succ]
          rw [this]; exact st.seen.add (fx j)
        · show n - Int.toNat (IntKind.i64.wrap ((j : Int) + 1)) < n - Int.toNat (j : Int)
          rw [hw1']; simp only [Int.toNat_natCast]; omega
      | false =>
        rw [ltI_eq, decide_eq_false_iff_not] at hlt
        obtain rfl : j = n := by omega
        subst hn7
        generalize hxs : (List.range n7).map fx = xs at *
        have hxl : xs.length = n7 := by rw [← hxs]; simp
        have hxr : ∀ x ∈ xs, 1 ≤ x ∧ x ≤ k := by
          rw [← hxs]
          intro x hx
          obtain ⟨z, _, rfl⟩ := List.mem_map.1 hx
          simp only [fx]
          have h1 := Int.emod_nonneg (match rows[z]? with | some [.int _ b] => b | _ => 0) (show (k : Int) ≠ 0 by omega)
          have h2 := Int.emod_lt_of_pos (match rows[z]? with | some [.int _ b] => b | _ => 0) (show (0 : Int) < k by omega)
          omega
        have o1 : odd.tmod 3 = odd % 3 := Int.tmod_eq_emod_of_nonneg (by omega)
        have o2 : IntKind.u64.wrap odd = odd := wrap_of (by simp [IntKind.min, IntKind.max, IntKind.signed, IntKind.bits]; omega)
        have o3 : odd.tmod k = odd % k := Int.tmod_eq_emod_of_nonneg (by omega)
        have hom : 0 ≤ odd % (k : Int) ∧ odd % (k : Int) < k := ⟨Int.emod_nonneg _ (by omega), Int.emod_lt_of_pos _ (by omega)⟩
        have o4 : IntKind.u64.wrap (odd % k + 1) = odd % k + 1 := wrap_of (by simp [IntKind.min, IntKind.max, IntKind.signed, IntKind.bits]; omega)
        simp only [o1, o2, o3, o4]
        generalize hm : decide (odd % 3 = 1) = m
        generalize hii : odd % (k : Int) + 1 = i at *
        have hmb : (odd % 3 == 1) = m := by rw [← hm]; exact Bool.eq_iff_iff.2 (by simp)
        have hgood : giveCode (moved L m i) X [] xs = 0 ↔ xs.Nodup ∧ ¬ (m = true ∧ i ∈ xs) := by
          rw [giveCode_zero]
          constructor
          · rintro ⟨h1, h2⟩
            refine ⟨h1, fun ⟨h3, h4⟩ => ?_⟩
            exact (moved_code hfill m i i (hxr i h4)).1 (h2 i h4).2 ⟨h3, rfl⟩
          · rintro ⟨h1, h2⟩
            exact ⟨h1, fun x hx => ⟨by simp, (moved_code hfill m i x (hxr x hx)).2 fun ⟨h3, h4⟩ => h2 ⟨h3, h4 ▸ hx⟩⟩⟩
        have hidm : ((moved L m i).map Buf.id).Nodup := by rw [moved_ids]; exact hfill.2.1
        have hlenm : (moved L m i).length = k := by
          have := congrArg List.length (moved_ids L m i)
          simpa [hfill.1] using this
        refine ⟨fun _ g => ∃ F, St3 h (h.next + 1) sm k (moved L m i) xs sl a2 n7 F G g, ⟨by omega, ?_⟩, ?_⟩
        · rw [hmb]
          cases m with
          | false => exact ⟨(by trivial), F, by simpa [moved] using st⟩
          | true =>
            refine ⟨by omega, (move_spec (who := X) (to := [121]) (id := i) st.pool hfill.2.1).mono' ?_⟩
            rintro v g3 hle3 hw3 ⟨u3, rfl, hp3⟩
            have hof : ofCode L i X = 0 := by
              have := (moved_code hfill false i i ⟨by omega, by omega⟩).2 (by simp)
              simpa [moved] using this
            rw [if_neg (by simp), hof]
            refine ⟨_, rfl, ?_⟩
            simp only [bne_self_eq_false, cond_false]
            rw [if_pos ⟨by simp, hof⟩] at hp3
            obtain ⟨ho3, _⟩ := Upd.frame (Own.rep _ _ _ _) st.wf st.ids u3 st.dFG
            obtain ⟨hm3, _⟩ := Upd.frame (MapIs.rep _ _ _ _) st.wf st.map u3 st.dFs
            exact ⟨(by trivial), F, by simpa [moved] using hp3, ho3, hm3, st.seen, st.dFG, st.dFs, st.dGs, Upd.keeps (PoolR.rep _ _ _ _) st.wf st.pool u3 st.keeps, hw3⟩
        · rintro bs3 g3 ⟨F3, s3⟩
          obtain ⟨ti, ht, hd⟩ := t32
          obtain ⟨ei, he, hz0⟩ := t3
          refine ⟨fun vs g => match vs with
            | [.bool b] => g = g3 ∧ (b = true ↔ (xs.Nodup ∧ ¬ (m = true ∧ i ∈ xs)))
            | _ => False, ?_, ?_⟩
          · refine ⟨_, s3.map.len ht hd, ?_⟩
            have hone := s3.seen.one
            rw [hxl] at hone
            by_cases hc1 : sl.length = n7
            · have : ((sl.length : Int) == (n7 : Int)) = true := by simp [hc1]
              rw [this]
              simp only [cond_true]
              refine ⟨by omega, ?_⟩
              have hnm : (odd % 3 != 1) = !m := by rw [← hmb]; rfl
              rw [hnm]
              cases m with
              | false => exact ⟨(by trivial), (by trivial), by simp [hone.1 hc1]⟩
              | true =>
                simp only [Bool.not_true, cond_false]
                have hlook : xlook T g3 32 (.map (some sm)) (.int .u64 i) false = some (.int .i64 ((mget sl i).getD 0)) := by
                  have := s3.map.look (K := kI28) ht hd he hz0 i false
                  rw [show V.int .u64 i = kI i from rfl, this]
                  cases mget sl i <;> rfl
                refine ⟨by omega, _, hlook, (by trivial), (by trivial), ?_⟩
                have hno := s3.seen.no i
                cases hg : mget sl i with
                | none =>
                  have := hno.1 hg
                  simp [this, hone.1 hc1]
                | some v =>
                  have h1 := s3.seen.few i v hg
                  have h2 : i ∈ xs := Classical.byContradiction fun h => by rw [hno.2 h] at hg; cases hg
                  simp [h2]
                  omega
            · have : ((sl.length : Int) == (n7 : Int)) = false := by simp; omega
              rw [this]
              simp only [cond_false]
              refine ⟨(by trivial), (by trivial), ?_⟩
              have : ¬ xs.Nodup := fun h => hc1 (hone.2 h)
              simp [this]
          · rintro bs4 b4 g4 ⟨rfl, hb4⟩
            refine (give_spec (f := f1) s3.wf s3.pool hidm (own_ints s3.ids (fun z hz hF => s3.dFG z hF hz)) (by omega)).mono' ?_
            rintro v g5 hle5 hw5 ⟨rfl, F5, u5, hp5'⟩
            have hp5 : PoolR (h.next + 1) k k (if giveCode (moved L m i) X [] xs = 0 then xs.foldl bdel (moved L m i) else moved L m i) g5 F5 := hp5'
            refine ⟨_, rfl, ?_⟩
            rw [← hgood] at hb4
            have hb5 : (giveCode (moved L m i) [120] [] xs == 0) = b4 := by
              show (giveCode (moved L m i) X [] xs == 0) = b4
              rw [Bool.eq_iff_iff, hb4]; simp
            rw [hb5]
            simp only [beq_self_eq_true, Bool.not_true, cond_false]
            have hlen5 : ((if giveCode (moved L m i) X [] xs = 0 then xs.foldl bdel (moved L m i) else moved L m i).length : Int) = k - (if b4 = true then (n7 : Int) else 0) := by
              by_cases hg : giveCode (moved L m i) X [] xs = 0
              · rw [if_pos hg, if_pos (hb4.2 hg)]
                have := bdel_all xs (moved L m i) hidm (hgood.1 hg).1 (fun x hx => by
                  rw [moved_ids]
                  obtain ⟨y, hy, hyx⟩ := hfill.2.2.2.1 x (hxr x hx).1 (hxr x hx).2
                  exact hyx ▸ List.mem_map_of_mem hy)
                omega
              · rw [if_neg hg, if_neg (fun h => hg (hb4.1 h)), hlenm]; omega
            refine ⟨fun vs g => match vs with
              | [.int _ x] => g = g5 ∧ x = (if b4 = true then (n7 : Int) else 0)
              | _ => False, ?_, ?_⟩
            · cases b4 with
              | true => exact ⟨(by trivial), (by trivial), by simp⟩
              | false => exact ⟨(by trivial), (by trivial), by simp⟩
            · rintro bs5 x g6 ⟨rfl, rfl⟩
              refine (free_spec hp5 ⟨by omega, by omega, by rw [hlen5]; split <;> omega⟩).mono ?_
              rintro _ g7 ⟨rfl, rfl⟩
              refine ⟨_, rfl, ?_⟩
              have : ((k : Int) - ((if giveCode (moved L m i) X [] xs = 0 then xs.foldl bdel (moved L m i) else moved L m i).length : Int) == (if b4 = true then (n7 : Int) else 0)) = true := by
                rw [hlen5]; simp; omega
              rw [this]
              exact works_spec fun _ => ⟨true, rfl, rfl⟩
end Go.Vex.PoolAll

namespace Go.Proofs.Yteblfacfbmlceaa.poolAll
open Go.ChangeShapes Go.WideShapes Go.ChangeAt Go.RowKit Go.Vex Go.Vex.PoolAll
open Go.ChangeMaps (open_string shut_string)

theorem own : ownKnob Try.prog.godebug = none := by kernel_rfl

set_option maxRecDepth 100000 in
theorem lifted (os : Os) (started : os.Started) (H : Type) (enc : TypeId × Value → H) :
    ReturnsInHanded {} Try.checked os 3 .any (Rows.poolAllSpec.pre6 enc Try.prog Try.f3 Rows.poolAllRow.domain false) (Rows.poolAllSpec.post enc Try.prog Try.f3 false true false false) := by
  refine returnsInHanded_of_change_sized (C := Try.checked) own started (by kernel_rfl) Try.func3
    (ChangeSpec.witness6 (enc := enc) (C := Try.checked) false ⟨#[], #[.int .u8 0, .slice none 0 0, .int .u8 0], []⟩ 8 (by kernel_rfl) (by kernel_rfl) (by kernel_rfl) (by kernel_rfl)) ?_
  intro W base args ds gs before hval0 hW hcnd hsz _
  have hval : ∀ (j : Nat) t v, Try.f3.params[j]? = some t → args[j]? = some v → Value.okWide Try.prog W .any base t v := hval0
  have hW' := hW
  obtain ⟨p, q, hA0, hV, rfl, hfz, hnd⟩ := hW
  have hA : DataW.TrodAll enc Try.prog W 0 (fun _ => true) true Try.f3.params.toList args.toList ds p := hA0
  rw [Try.params3] at hA hval hsz
  obtain ⟨v0, vs0, d0, ds0, p0, q0, hargs, rfl, rfl, h0, r0⟩ := trodAll_cons hA
  obtain ⟨v1, vs1, d1, ds1, p1, q1, rfl, rfl, rfl, h1, r1⟩ := trodAll_cons r0
  obtain ⟨v2, vs2, d2, ds2, p2, q2, rfl, rfl, rfl, h2, r2⟩ := trodAll_cons r1
  obtain ⟨rfl, rfl, rfl⟩ := trodAll_nil r2
  obtain rfl : args = #[v0, v1, v2] := by cases args; simp_all
  obtain ⟨rfl, rfl⟩ := trodVars_none hV
  obtain ⟨a0, rfl, rfl, rfl, w0⟩ := open_int Try.underlying5 (hval 0 5 v0 rfl rfl) h0
  obtain ⟨ρ1, hp1, b1, n1, f1, rows1, s1, x1, l1, k1, vr1, ro1, sh1, z1⟩ := arg_slice tok (T := Vex.T) (t := 22) (e := 5) (d := 5) (zs := [.int .u8 0]) rfl rfl rfl rfl rfl (by decide) (hval 1 22 v1 rfl rfl) h1 (fun m hm => hW'.lt m (by simp [hm])) (fun m hm => by simpa using List.all_eq_true.1 hsz m (DataW.weights_mem_each (j := 1) (t := 22) rfl rfl m hm)) (Sat.none W fun _ => ⟨0, 0, 0, 0⟩)
  obtain ⟨a2, rfl, rfl, rfl, w2⟩ := open_int Try.underlying5 (hval 2 5 v2 rfl rfl) h2
  refine (XCalls.true' s1 (vs := [.int .u8 a0, .slc b1 n1 f1, .int .u8 a2]) ⟨_, _, rfl, rfl, ⟨_, _, rfl, vr1, ⟨_, _, rfl, rfl, rfl⟩⟩⟩ (law_calls a0 w0 ro1 sh1 z1 a2 w2)).mono fun e W' ⟨he, hb⟩ => ?_
  subst he
  exact ⟨_, rfl, post_true (by kernel_rfl) hW' hb rfl (fun gs hg => by subst hg; rfl) (tb := 4) rfl Try.underlying4 (by decide +kernel)⟩

theorem over : Rows.poolAllRow.holds Try.pinned (OpenSpec.ofChange Rows.poolAllSpec) :=
  OpenClaim.holds_of_wide 3 Try.f3 rfl rfl rfl rfl rfl rfl rfl ⟨rfl, rfl, rfl, rfl, rfl⟩ rfl rfl rfl rfl rfl (by kernel_rfl) Try.func3 (by kernel_rfl)
    (of_decide_eq_true (by kernel_rfl)) (by unfold Func.isWrapper; first | (rw [if_pos (by decide +kernel)]; kernel_rfl) | (rw [if_neg (by decide +kernel)]; exact ⟨rfl, rfl⟩))
    (fun os started H enc _ => lifted os started H enc)

theorem proved : Rows.PoolAllSaid :=
  over
#print axioms proved
end Go.Proofs.Yteblfacfbmlceaa.poolAll

