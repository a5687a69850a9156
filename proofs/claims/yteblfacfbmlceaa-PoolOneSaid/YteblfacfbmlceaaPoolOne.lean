/-
  PoolOne of layer 17: whatever the most and the script, the law returns true and leaves the input as it was. No condition.
-/
import Derived.Test.YteblfacfbmlceaaVexGG
import Derived.Test.YteblfacfbmlceaaTab17
import Derived.Test.YteblfacfbmlceaaXa17
import Derived.Test.YteblfacfbmlceaaCa17
import Derived.Test.YteblfacfbmlceaaCb17
import Derived.Test.YteblfacfbmlceaaXc17
import Derived.Test.YteblfacfbmlceaaCc17
import Derived.Test.YteblfacfbmlceaaXs17
import Derived.Test.YteblfacfbmlceaaXk17
import Derived.Test.YteblfacfbmlceaaCsa17
import Derived.Test.YteblfacfbmlceaaCsb17
import Derived.Test.YteblfacfbmlceaaCsc17
import Derived.Test.YteblfacfbmlceaaCsd17
import Derived.Test.YteblfacfbmlceaaCse17
import Derived.Test.YteblfacfbmlceaaXg17
import Derived.Test.YteblfacfbmlceaaCf17
import Derived.Test.YteblfacfbmlceaaRows
import Derived.WalkKit
import Derived.ProofKit
import Derived.OpenShut
import Derived.KernelRfl
set_option linter.unusedVariables false
set_option linter.unusedSimpArgs false
namespace Go.Vex.PoolOne
open Go.Proofs

set_option maxRecDepth 100000 in
theorem works_ev : (ev Vex.T Vex.F (fun _ => []) 100000).call 9 [] h0 isT = true := by kernel_rfl

theorem works_spec {h : Hp} {K : V → Hp → Prop} (hk : ∀ h', K (.bool true) h') : XCalls Try.prog 9 [] h K :=
  (XCalls.fresh (K := fun v => v = .bool true) rfl (fun v hv => by subst hv; rfl) (XCalls.ev tok fok mixed (fun _ => []) 100000 works_ev fun _ _ hv => isT_spec hv)).mono fun v h' hv => by rw [hv.1]; exact hk h'

abbrev kS : List UInt8 → V := fun s => .str s
abbrev vI : Int → V := fun n => .int .i64 n

theorem mtW : MT T 54 kS (vI 0) := ⟨(T 54).get rfl, 9, 3, (T 3).get rfl, rfl, rfl, rfl, rfl, KL.str (ti := (T 9).get rfl) rfl rfl⟩
theorem mtS : MT T 32 kI (vI 0) := ⟨(T 32).get rfl, 28, 3, (T 3).get rfl, rfl, rfl, rfl, rfl, kI28⟩

theorem mput_nd {κ β : Type} [DecidableEq κ] {l : List (κ × β)} (h : (l.map Prod.fst).Nodup) (k : κ) (v : β) : ((mput l k v).map Prod.fst).Nodup := by
  cases hg : mget l k with
  | none =>
    rw [mput_none l k v hg, List.map_append, List.nodup_append]
    refine ⟨h, by simp, fun a ha b hb => ?_⟩
    simp at hb; subst hb
    exact fun e => (mget_mem l b).2 (e ▸ ha) hg
  | some w => rw [mput_some l k v (by rw [hg]; simp)]; exact h

theorem mput_has {κ β : Type} [DecidableEq κ] (l : List (κ × β)) (k : κ) (v : β) (k' : κ) : k' ∈ (mput l k v).map Prod.fst ↔ k' = k ∨ k' ∈ l.map Prod.fst := by
  rw [← mget_mem, ← mget_mem, mget_mput]
  by_cases e : k' = k <;> simp [e]

/-- whose it is stands in the map, and is somebody -/
def Whos (C : List B3) (W : List (List UInt8 × Int)) : Prop := ∀ x ∈ C, x.2.1 ≠ [] ∧ x.2.1 ∈ W.map Prod.fst

theorem Whos.step {most last : Int} {C : List B3} {W : List (List UInt8 × Int)} (w : Whos C W) (p : Stp) (h1 : p.who ∈ W.map Prod.fst) (h2 : p.to ∈ W.map Prod.fst) : Whos (stepC most last C p).2.2 W := by
  have dels : ∀ (xs : List Int) (C : List B3), (∀ x ∈ C, x.2.1 ≠ [] ∧ x.2.1 ∈ W.map Prod.fst) → ∀ x ∈ xs.foldl cdel C, x.2.1 ≠ [] ∧ x.2.1 ∈ W.map Prod.fst := fun xs => by
    induction xs with
    | nil => exact fun C h => h
    | cons y ys ih => exact fun C h => ih (cdel C y) fun x hx => h x (List.mem_filter.1 hx).1
  unfold stepC
  split
  · split
    · rename_i hc
      intro x hx
      rcases List.mem_append.1 hx with hx | hx
      · exact w x hx
      · rw [List.mem_singleton] at hx; subst hx
        refine ⟨fun e => ?_, h1⟩
        simp only at e
        simp [takeCode, e] at hc
    · exact w
  · split
    · show Whos (if _ then _ else _) W
      split
      · exact dels _ _ w
      · exact w
    · split
      · show Whos (if p.to ≠ [] ∧ codeC C p.n p.who = 0 then cset C p.n (fun x => (x.1, p.to, x.2.2)) else C) W
        split
        · rename_i hc
          intro x hx
          obtain ⟨y, hy, rfl⟩ := List.mem_map.1 hx
          split
          · exact ⟨hc.1, h2⟩
          · exact w y hy
        · exact w
      · split
        · show Whos (if codeC C p.n p.who = 0 ∧ p.s.length ≤ 65549 then cset C p.n (fun x => (x.1, x.2.1, p.s)) else C) W
          split
          · intro x hx
            obtain ⟨y, hy, rfl⟩ := List.mem_map.1 hx
            split
            · exact w y hy
            · exact w y hy
          · exact w
        · exact w

/-- how many one has -/
def hc (C : List B3) (who : List UInt8) : Nat := ((C.map Prod.fst).filter (isHis C who)).length

def tot (f : List UInt8 → Nat) : List (List UInt8 × Int) → Nat
  | [] => 0
  | x :: l => f x.1 + tot f l

theorem tot_append (f : List UInt8 → Nat) : ∀ (l r : List (List UInt8 × Int)), tot f (l ++ r) = tot f l + tot f r
  | [], r => by simp [tot]
  | x :: l, r => by simp only [List.cons_append, tot, tot_append f l r]; omega

theorem tot_perm (f : List UInt8 → Nat) {l r : List (List UInt8 × Int)} (h : l.Perm r) : tot f l = tot f r := by
  induction h with
  | nil => rfl
  | cons x _ ih => simp only [tot, ih]
  | swap x y l => simp only [tot]; omega
  | trans _ _ ih1 ih2 => exact ih1.trans ih2

theorem tot_add (f g : List UInt8 → Nat) : ∀ (l : List (List UInt8 × Int)), tot (fun w => f w + g w) l = tot f l + tot g l
  | [] => rfl
  | x :: l => by simp only [tot, tot_add f g l]; omega

theorem tot_zero {f : List UInt8 → Nat} : ∀ {l : List (List UInt8 × Int)}, (∀ x ∈ l, f x.1 = 0) → tot f l = 0
  | [], _ => rfl
  | x :: l, h => by simp only [tot, h x (by simp), tot_zero (l := l) fun y hy => h y (by simp [hy])]

theorem tot_one {f : List UInt8 → Nat} {a : List UInt8} (hf : ∀ w, f w = if w = a then 1 else 0) : ∀ {l : List (List UInt8 × Int)}, (l.map Prod.fst).Nodup → a ∈ l.map Prod.fst → tot f l = 1
  | [], _, h => by cases h
  | x :: l, hn, h => by
    rw [List.map_cons, List.nodup_cons] at hn
    simp only [tot]
    by_cases e : x.1 = a
    · rw [hf, if_pos e, tot_zero fun y hy => by rw [hf, if_neg (fun e' => hn.1 (by rw [e, ← e']; exact List.mem_map_of_mem hy))]]
    · rw [hf, if_neg e, tot_one hf hn.2 (by rcases List.mem_cons.1 h with h | h; exact absurd h.symm e; exact h)]

/-- all that there are are somebody's -/
theorem tot_all {C : List B3} {W : List (List UInt8 × Int)} (hn : (W.map Prod.fst).Nodup) : ∀ ids : List Int, (∀ id ∈ ids, ∃ x, cfind C id = some x ∧ x.2.1 ∈ W.map Prod.fst) → tot (fun w => (ids.filter (isHis C w)).length) W = ids.length
  | [], _ => tot_zero fun _ _ => rfl
  | id :: ids, h => by
    obtain ⟨x, hx, hm⟩ := h id (by simp)
    have ih := tot_all hn ids fun i hi => h i (by simp [hi])
    have : (fun w => ((id :: ids).filter (isHis C w)).length) = fun w => (if w = x.2.1 then 1 else 0) + (ids.filter (isHis C w)).length := by
      funext w
      simp only [List.filter_cons, isHis, hx]
      by_cases e : x.2.1 = w
      · rw [if_pos (by simp [e]), if_pos e.symm, List.length_cons]; omega
      · rw [if_neg (by simp [e]), if_neg (fun h => e h.symm)]; omega
    rw [this, tot_add, ih, tot_one (f := fun w => if w = x.2.1 then 1 else 0) (fun _ => rfl) hn hm, List.length_cons]; omega

theorem isHis_some {C : List B3} {who : List UInt8} {id : Int} (h : isHis C who id = true) : ∃ x, cfind C id = some x ∧ x.2.1 = who := by
  unfold isHis at h
  split at h
  · rename_i x hx; exact ⟨x, hx, by simpa using h⟩
  · cases h

theorem cfind_ids {C : List B3} {id : Int} (h : id ∈ C.map Prod.fst) : ∃ x, cfind C id = some x := by
  cases hf : cfind C id with
  | some x => exact ⟨x, rfl⟩
  | none =>
    unfold cfind at hf
    rw [List.find?_eq_none] at hf
    obtain ⟨x, hx, rfl⟩ := List.mem_map.1 h
    exact absurd (hf x hx) (by simp)

theorem cfind_id' {C : List B3} {id : Int} {x : B3} (h : cfind C id = some x) : x ∈ C ∧ id = x.1 := by
  unfold cfind at h
  exact ⟨List.mem_of_find?_eq_some h, by simpa using List.find?_some h⟩

set_option maxRecDepth 20000 in
theorem law_calls (most : Int) (w0 : (Lit.int .u8 most).wf = true) {h : Hp} {a : Option (Nat × Nat)} {n : Nat} {f : Bool} {rows : List (List V)} (ha : RoSlc h a n rows 6)
    (hr : ∀ r ∈ rows, ShN Try.prog h stepZ r) (hbz : n * Try.prog.bytesOf 45 ≤ reachBytes) : XCalls Try.prog 6 [.int .u8 most, .slc a n f] h fun v _ => v = .bool true := by
  have hz : ∀ r ∈ rows, r.length = 6 := fun r h => by obtain ⟨p, a, n, f, s⟩ := srow (hr r h); rw [s.eq]; rfl
  refine XCalls.ofWf fun hw => ?_
  refine XCalls.cps fun K hK => ?_
  have KT : ∀ h', K (.bool true) h' := fun h' => hK _ _ rfl
  have hmo := lit_bnd w0
  simp [IntKind.min, IntKind.max, IntKind.signed, IntKind.bits] at hmo
  apply x6; unfold X6
  refine (heavy_spec ha hr).mono ?_
  rintro _ g0 ⟨rfl, bb, rfl, hn⟩
  refine ⟨_, rfl, ?_⟩
  cases bb with
  | true => exact works_spec fun _ => ⟨_, rfl, KT _⟩
  | false =>
  have hn := hn rfl
  obtain ⟨M, hM, hM1⟩ : ∃ M : Int, IntKind.i64.wrap (IntKind.i64.wrap (most.tmod 40) + 1) = M ∧ 1 ≤ M ∧ M ≤ 40 := by
    refine ⟨_, rfl, ?_⟩
    rw [Int.tmod_eq_emod_of_nonneg hmo.1, wr (x := most % 40) (by omega) (by omega), wr (by omega) (by omega)]; omega
  rw [hM]
  simp only [cond_false]
  refine ⟨by omega, ?_⟩
  refine (new_spec (most := M) (by omega)).mono' ?_
  rintro _ g1 hg1 wf1 ⟨rfl, pr1, u1⟩
  refine ⟨_, _, rfl, ?_⟩
  simp only [bne_self_eq_false, cond_false, Option.isNone_some]
  have k1 : g0.keeps g1 := fun q c e hq => by rw [u1.same q (hw.lt hq) (by simp)]; exact hq
  rintro g2 rfl
  have hs2 : ∀ j, j < g1.next → (g1.alloc (.map [] 0)).get j = g1.get j := fun j hj => Hp.get_alloc_ne (by omega)
  refine ⟨fun vs g => match vs with
    | [.int _ lv, .int _ x] => ∃ (k : Nat) (last : Int) (L : List Buf) (F : List Nat) (W : List (List UInt8 × Int)) (o : O), x = k ∧ k ≤ n ∧ lv ≤ last ∧ last ≤ k ∧ CInv M last (L.map Buf.con) ∧ PoolR (g0.next + 1) M last L g F ∧ g.get g1.next = some o ∧ MO kS vI W o ∧ g1.next ∉ F ∧
        (W.map Prod.fst).Nodup ∧ Whos (L.map Buf.con) W ∧ g.wf ∧ g0.keeps g
    | _ => False, fun vs _ => match vs with
    | [_, .int _ x] => n - x.toNat
    | _ => 0, ⟨(by trivial), 0, 0, [], [g0.next + 1, g0.next], [], _, rfl, by omega, by omega, by omega, ⟨by simp, by simp, by simp; omega, by omega⟩, (PoolR.rep _ _ _ _).stay wf1 pr1 hs2, Hp.get_alloc_self, MO.nil _ _, ?_, by simp, by simp [Whos], wf1.alloc, k1.stay wf1 hs2⟩, ?_⟩
  · intro h
    have := (PoolR.rep _ _ _ _).lt wf1 pr1 h
    omega
  rintro bs lv x g3 ⟨k, last, L, F, W, o, rfl, hk, hlv, hlast, ci, pr, hwo, mo, hwF, wnd, whos, wf, kp⟩
  cases c3 : ltI (↑k) (↑n) with
  | false => exact works_spec fun _ => ⟨_, rfl, KT _⟩
  | true =>
  rw [ltI_eq, decide_eq_true_eq] at c3
  have hw1 : IntKind.i64.wrap ((k : Int) + 1) = ((k + 1 : Nat) : Int) := wrap_succ (n := 500) (by omega) (by omega)
  have dec : n - Int.toNat (IntKind.i64.wrap ((k : Int) + 1)) < n - Int.toNat (k : Int) := by
    rw [hw1]; simp only [Int.toNat_natCast]; omega
  have hbd : (0 : Int) ≤ k ∧ (k : Int) < n := ⟨by omega, c3⟩
  obtain ⟨q, r, rfl, hrow, hld, hlda⟩ := ha.ld kp (k := k) (by omega) hz
  obtain ⟨p, la, ln, lf, sr⟩ := srow (hr r (List.mem_of_getElem? hrow))
  refine ⟨hbd, p.d, p.who, p.to, p.s, p.n, la, ln, lf, by simp only [Int.toNat_natCast]; rw [Nat.zero_add] at hlda ⊢; rw [hlda, sr.eq], ?_⟩
  rintro g4 rfl
  refine ⟨_, Hp.st_of Hp.get_alloc_self (Nat.le_of_ble_eq_true rfl), ?_⟩
  generalize hg5 : (g3.alloc _).set g3.next _ = g5
  have hrow5 : g5.get g3.next = some (.row r 1 false) := by rw [← hg5, sr.eq]; exact Hp.get_set_self
  have wf5 : g5.wf := by rw [← hg5]; exact wf.alloc.set (by simp [Hp.alloc_next])
  have hn5 : g5.next = g3.next + 1 := by rw [← hg5]; rfl
  have hs5 : ∀ j, j < g3.next → g5.get j = g3.get j := fun j hj => by rw [← hg5, Hp.get_set_ne (by omega), Hp.get_alloc_ne (by omega)]
  clear hg5
  rw [sr.eq] at hrow5
  have hwl : g1.next < g3.next := wf.lt hwo
  have hFl : ∀ j ∈ F, j < g3.next := fun j hj => (PoolR.rep _ _ _ _).lt wf pr hj
  obtain ⟨o6, mo6, hput6⟩ := mo.put mtW p.who 1
  obtain ⟨o7, mo7, hput7⟩ := mo6.put mtW p.to 1
  refine ⟨p.who, by rw [Hp.ld_of hrow5]; rfl, _, hput6 g5 g1.next (by rw [hs5 _ hwl]; exact hwo), ?_⟩
  have hrow6 : (g5.set g1.next o6).get g3.next = some (.row [.int .i64 p.d, .str p.who, .str p.to, .str p.s, .int .u64 p.n, .slc la ln lf] 1 false) := (Hp.get_set_ne (by omega)).trans hrow5
  refine ⟨p.to, by rw [Hp.ld_of hrow6]; rfl, _, hput7 _ g1.next Hp.get_set_self, ?_⟩
  generalize hg8 : (g5.set g1.next o6).set g1.next o7 = g8
  have hrow8 : g8.get g3.next = some (.row [.int .i64 p.d, .str p.who, .str p.to, .str p.s, .int .u64 p.n, .slc la ln lf] 1 false) := by rw [← hg8]; exact (Hp.get_set_ne (by omega)).trans hrow6
  have hwo8 : g8.get g1.next = some o7 := by rw [← hg8]; exact Hp.get_set_self
  have wf8 : g8.wf := by rw [← hg8]; exact (wf5.set (by omega)).set (by simp only [Hp.set_next]; omega)
  have hn8 : g8.next = g3.next + 1 := by rw [← hg8]; exact hn5
  have hs8 : ∀ j, j < g3.next → j ≠ g1.next → g8.get j = g3.get j := fun j hj hne => by rw [← hg8, Hp.get_set_ne hne, Hp.get_set_ne hne]; exact hs5 j hj
  clear hg8
  have pr8 : PoolR (g0.next + 1) M last L g8 F := (PoolR.rep _ _ _ _).loc _ _ _ (fun j hj => hs8 j (hFl j hj) fun e => hwF (e ▸ hj)) pr
  have kp8 : g0.keeps g8 := fun q c e hq => by
    have h3 := kp q c e hq
    rw [hs8 q (wf.lt h3) fun e' => ?_]
    · exact h3
    · rw [e', hwo] at h3
      have := mo.rw
      rw [Option.some.inj h3] at this; cases this
  refine ⟨p.d, p.who, p.to, p.s, p.n, la, ln, lf, by rw [Hp.lda_of hrow8 (Nat.le_of_ble_eq_true rfl)]; rfl, ?_⟩
  have hdoes := does_spec wf8 kp8 pr8 ci (by omega) sr
  rw [sr.eq] at hdoes
  refine hdoes.mono' ?_
  rintro _ g9 hn9 wf9 ⟨rfl, L', F', hL', pr9, u9, _⟩
  refine ⟨_, _, rfl, ?_⟩
  obtain ⟨ci', l1, l2⟩ := ci.step p
  have hrF : g3.next ∉ F := fun h => by have := hFl _ h; omega
  have hrow9 : g9.get g3.next = some (.row [.int .i64 p.d, .str p.who, .str p.to, .str p.s, .int .u64 p.n, .slc la ln lf] 1 false) := by rw [u9.same _ (by omega) hrF]; exact hrow8
  have hwo9 : g9.get g1.next = some o7 := by rw [u9.same _ (by omega) hwF]; exact hwo8
  have hwF' : g1.next ∉ F' := fun h => (u9.new _ h).elim hwF (fun h => by omega)
  have kp9 := u9.keeps (PoolR.rep _ _ _ _) wf8 pr8 kp8
  have wnd' : ((mput (mput W p.who 1) p.to 1).map Prod.fst).Nodup := mput_nd (mput_nd wnd _ _) _ _
  have whos' : Whos (L'.map Buf.con) (mput (mput W p.who 1) p.to 1) := by
    rw [hL']
    refine Whos.step (fun x hx => ⟨(whos x hx).1, ?_⟩) p ?_ ?_
    · rw [mput_has, mput_has]; exact .inr (.inr (whos x hx).2)
    · rw [mput_has, mput_has]; exact .inr (.inl rfl)
    · rw [mput_has]; exact .inl rfl
  generalize hW' : mput (mput W p.who 1) p.to 1 = W' at mo7 wnd' whos'
  generalize hst : stepC M last (L.map Buf.con) p = st at hL' pr9 ci' l1 l2
  rw [← hL'] at ci'
  have hfirst : p.d = 0 → st.1.2 = 0 → lv < st.1.1 ∧ st.1.1 ≤ st.2.1 := fun h0 he => by
    rw [← hst] at he ⊢
    unfold stepC at he ⊢
    rw [if_pos h0] at he ⊢
    split at he
    · rename_i hc
      rw [if_pos hc]
      simp only; omega
    · rename_i hc
      exact absurd he hc
  refine ⟨fun vs g => match vs with
    | [.int _ lv'] => g = g9 ∧ lv' ≤ st.2.1
    | _ => False, ?_, ?_⟩
  · refine ⟨p.d, by rw [Hp.ld_of hrow9]; rfl, ?_⟩
    by_cases hd0 : p.d = 0
    · have b0 : (p.d == 0) = true := by simp [hd0]
      simp only [b0, cond_true]
      by_cases he0 : st.1.2 = 0
      · have b1 : (st.1.2 == 0) = true := by simp [he0]
        obtain ⟨f1, f2⟩ := hfirst hd0 he0
        have b2 : ltI lv st.1.1 = true := by rw [ltI_eq, decide_eq_true_eq]; exact f1
        simp only [b1, cond_true, b2, Bool.not_true, cond_false]
        exact ⟨(by trivial), (by trivial), f2⟩
      · have b1 : (st.1.2 == 0) = false := by simp [he0]
        simp only [b1, cond_false]
        exact ⟨(by trivial), (by trivial), by omega⟩
    · have b0 : (p.d == 0) = false := by simp [hd0]
      simp only [b0, cond_false]
      exact ⟨(by trivial), (by trivial), by omega⟩
  rintro bs2 lv' g10 ⟨rfl, hlv'⟩
  rintro g11 rfl
  have hwl10 : g1.next < g10.next := wf9.lt hwo9
  have hFl10 : ∀ j ∈ F', j < g10.next := fun j hj => (PoolR.rep _ _ _ _).lt wf9 pr9 hj
  obtain ⟨g12, hrg, it12, hs12, hn12, wf12⟩ := mo7.iter mtW (h := g10.alloc (.map [] 0)) (m := g1.next) (by rw [Hp.get_alloc_ne (by omega)]; exact hwo9) wf9.alloc
  refine ⟨g12, hrg, ?_⟩
  simp only [Hp.alloc_next] at it12 hs12 hn12 hrg ⊢
  have hb12 : ∀ j, j < g10.next → g12.get j = g10.get j := fun j hj => by rw [hs12 j (by omega), Hp.get_alloc_ne (by omega)]
  have hsm12 : g12.get g10.next = some (.map [] 0) := by rw [hs12 _ (by omega)]; exact Hp.get_alloc_self
  have hLl : (L'.length : Int) ≤ M := by have := ci'.len; simpa using this
  have hnd' : (L'.map Buf.id).Nodup := by have := ci'.nd; rw [List.map_map] at this; exact this
  have hids : (L'.map Buf.con).map Prod.fst = L'.map Buf.id := by rw [List.map_map]; rfl
  -- the pool behind the walk's turns
  have poolAt : ∀ g : Hp, (∀ j, j < g10.next → g.get j = g10.get j) → PoolR (g0.next + 1) M st.2.1 L' g F' := fun g hg => (PoolR.rep _ _ _ _).loc _ _ _ (fun j hj => hg j (hFl10 j hj)) pr9
  have hhc : ∀ w, ((L'.map Buf.id).filter (isHis (L'.map Buf.con) w)).length = hc (L'.map Buf.con) w := fun w => by unfold hc; rw [hids]
  have hhcle : ∀ w, hc (L'.map Buf.con) w ≤ 40 := fun w => by
    rw [← hhc]
    have := List.length_filter_le (isHis (L'.map Buf.con) w) (L'.map Buf.id)
    rw [List.length_map] at this; omega
  have htot : tot (hc (L'.map Buf.con)) W' = L'.length := by
    have := tot_all (C := L'.map Buf.con) wnd' ((L'.map Buf.con).map Prod.fst) fun id hid => by
      obtain ⟨x, hx⟩ := cfind_ids hid
      exact ⟨x, hx, (whos' x (cfind_id' hx).1).2⟩
    rw [List.length_map, List.length_map] at this
    exact this
  refine ⟨fun vs g => match vs with
    | [.int _ held] => ∃ (done : List (List UInt8 × Int)) (A : List (Int × Int)) (oA : O), Itr kS vI W' g1.next (g10.next + 1) done g ∧ held = tot (hc (L'.map Buf.con)) done ∧ g.get g10.next = some oA ∧ MO kI vI A oA ∧
        (∀ id v, mget A id = some v → v = 1 ∧ ∃ d ∈ done, isHis (L'.map Buf.con) d.1 id = true) ∧ (∀ j, j < g10.next → g.get j = g10.get j) ∧ g10.next + 1 < g.next ∧ g.wf
    | _ => False, fun _ g => W'.length - itN (g10.next + 1) g, ⟨(by trivial), [], [], _, it12, rfl, hsm12, MO.nil _ _, by simp [mget], hb12, by omega, wf12⟩, ?_⟩
  rintro bs3 held g13 ⟨done, A, oA, it13, rfl, hsm13, moA, hA, hb13, hn13, wf13⟩
  obtain ⟨l, hl, hend, hforms, hstep⟩ := it13.next wf13
  have pr13 := poolAt g13 hb13
  have htle : ∀ d : List (List UInt8 × Int), (∃ rest, (d ++ rest).Perm W') → tot (hc (L'.map Buf.con)) d ≤ 40 := fun d ⟨rest, hp⟩ => by
    have := tot_perm (hc (L'.map Buf.con)) hp
    rw [tot_append, htot] at this
    omega
  refine ⟨l, hl, fun hmem => ?_, hforms, ?_⟩
  · have hperm := hend hmem
    have hheld : tot (hc (L'.map Buf.con)) done = L'.length := by rw [tot_perm _ hperm]; exact htot
    rw [hheld]
    refine (free_spec pr13 ⟨by omega, by omega, hLl⟩).mono ?_
    rintro _ g14 ⟨rfl, rfl⟩
    refine ⟨_, rfl, ?_⟩
    rw [wr (by omega) (by omega), show (L'.length : Int) + (M - L'.length) = M by omega]
    simp only [bne_self_eq_false, cond_false]
    refine (free_spec pr13 ⟨by omega, by omega, hLl⟩).mono ?_
    rintro _ g15 ⟨rfl, rfl⟩
    refine ⟨_, rfl, ?_⟩
    have c5 : ltI (M - ↑L'.length) 0 = false := by rw [ltI_eq, decide_eq_false_iff_not]; omega
    rw [c5]
    refine ⟨(by trivial), ⟨k + 1, st.2.1, L', F', W', o7, hw1, by omega, hlv', by omega, ci', pr13, by rw [hb13 _ hwl10]; exact hwo9, mo7, hwF', wnd', whos', wf13, fun q c e hq => ?_⟩, dec⟩
    have := kp9 q c e hq
    rw [hb13 q (wf9.lt this)]; exact this
  · intro ka va g14 hmem
    obtain ⟨z, hz', rfl, rfl, hent, hs14, hn14, wf14, ⟨rest, hperm⟩, hnx14⟩ := hstep ka va g14 hmem
    refine ⟨z.1, _, hent, ?_⟩
    have hb14 : ∀ j, j < g10.next → g14.get j = g10.get j := fun j hj => by rw [hs14 j (by omega)]; exact hb13 j hj
    have pr14 := poolAt g14 hb14
    have hsm14 : g14.get g10.next = some oA := by rw [hs14 _ (by omega)]; exact hsm13
    refine (held_spec (who := z.1) wf14 pr14 hnd' (by omega)).mono ?_
    rintro _ g15 ⟨a6, f6, S, G, rfl, hpS, hSs, hoS, hs15, hG, hn15, wf15⟩
    refine ⟨a6, _, f6, rfl, ?_⟩
    have hSl : S.length = hc (L'.map Buf.con) z.1 := by rw [hpS.length_eq, hhc]
    have hmid : (done ++ z :: rest).Perm W' := hperm
    have hle1 := htle done ⟨_, hmid⟩
    have hle2 := hhcle z.1
    have hheld : IntKind.i64.wrap ((tot (hc (L'.map Buf.con)) done : Int) + ↑S.length) = ((tot (hc (L'.map Buf.con)) (done ++ [z]) : Nat) : Int) := by
      rw [wr (by omega) (by omega), hSl, tot_append]
      simp only [tot]; omega
    have hzd : ∀ d ∈ done, d.1 ≠ z.1 := fun d hd e => by
      have hnd := (hmid.map Prod.fst).nodup_iff.2 wnd'
      rw [List.map_append, List.map_cons, List.nodup_append] at hnd
      exact hnd.2.2 d.1 (List.mem_map_of_mem hd) z.1 (by simp) e
    have hSh : ∀ id ∈ S, isHis (L'.map Buf.con) z.1 id = true := fun id hid => (List.mem_filter.1 (hpS.subset hid)).2
    refine ⟨fun vs g => match vs with
      | [.int _ i] => ∃ (j : Nat) (A' : List (Int × Int)) (oA' : O), i = j ∧ j ≤ S.length ∧ g.get g10.next = some oA' ∧ MO kI vI A' oA' ∧
          (∀ id v, mget A' id = some v → v = 1 ∧ ((∃ d ∈ done, isHis (L'.map Buf.con) d.1 id = true) ∨ id ∈ S.take j)) ∧ (∀ j, j < g15.next → j ≠ g10.next → g.get j = g15.get j) ∧ g15.next ≤ g.next ∧ g.wf
      | _ => False, fun vs _ => match vs with
      | [.int _ i] => S.length - i.toNat
      | _ => 0, ⟨(by trivial), 0, A, oA, rfl, Nat.zero_le _, by rw [hs15 _ (by omega)]; exact hsm14, moA, fun id v h => by
        obtain ⟨h1, h2⟩ := hA id v h
        exact ⟨h1, .inl h2⟩, fun _ _ _ => rfl, Nat.le_refl _, wf15⟩, ?_⟩
    rintro bs4 i g16 ⟨j, A', oA', rfl, hj, hsm16, moA', hA', hb16, hn16, wf16⟩
    have hlow : ∀ j, j < g10.next → g16.get j = g10.get j := fun j hj => by rw [hb16 j (by omega) (by omega), hs15 j (by omega)]; exact hb14 j hj
    have pr16 := poolAt g16 hlow
    cases c6 : ltI (↑j) (↑S.length) with
    | false =>
      rw [ltI_eq, decide_eq_false_iff_not] at c6
      rw [hheld]
      obtain ⟨i5, lt5⟩ := hnx14 g16 (by rw [hb16 _ (by omega) (by omega), hs15 _ (by omega)]) (by rw [hb16 _ (by omega) (by omega), hs15 _ (by omega)])
      refine ⟨(by trivial), ⟨done ++ [z], A', oA', i5, rfl, hsm16, moA', fun id v h => ?_, hlow, by omega, wf16⟩, lt5⟩
      obtain ⟨h1, h2⟩ := hA' id v h
      refine ⟨h1, ?_⟩
      rcases h2 with ⟨d, hd, h2⟩ | h2
      · exact ⟨d, by simp [hd], h2⟩
      · exact ⟨z, by simp, hSh id (List.mem_of_mem_take h2)⟩
    | true =>
      rw [ltI_eq, decide_eq_true_eq] at c6
      have hjl : j < S.length := by omega
      have hbj : (0 : Int) ≤ j ∧ (j : Int) < S.length := ⟨by omega, c6⟩
      have hSk : S[j]? = some S[j] := List.getElem?_eq_getElem hjl
      have hSm : S[j] ∈ S := List.getElem_mem hjl
      generalize hid : S[j] = id at hSk hSm
      have hown : ∀ g : Hp, (∀ x ∈ G, g.get x = g16.get x) → ∃ q o, a6 = some (q, o) ∧ g.ld q (o + j * 1) = some (.int .u64 id) ∧ (0 < j → ∃ pv, S[j - 1]? = some pv ∧ g.ld q (o + (j - 1) * 1) = some (.int .u64 pv)) := fun g hg => by
        have ho' : Own 1 a6 S.length (S.map fun x => [V.int .u64 x]) g G := (Own.rep _ _ _ _).loc _ _ _ (fun x hx => by
          rw [hg x hx, hb16 x ((Own.rep _ _ _ _).lt wf15 hoS hx) (by have := hG x hx; omega)]) hoS
        obtain ⟨q, o, row, e, hrow, _, hld, _⟩ := ho'.ld hjl
        rw [List.getElem?_map, hSk] at hrow
        cases hrow
        refine ⟨q, o, e, hld 0 (by omega), fun h0 => ?_⟩
        obtain ⟨q', o', row', e', hrow', _, hld', _⟩ := ho'.ld (k := j - 1) (by omega)
        rw [e] at e'; cases e'
        rw [List.getElem?_map, List.getElem?_eq_getElem (show j - 1 < S.length by omega)] at hrow'
        have er := Option.some.inj hrow'
        have := hld' 0 (by omega)
        rw [← er] at this
        exact ⟨_, List.getElem?_eq_getElem (by omega), this⟩
      obtain ⟨q, o, rfl, hl1, _⟩ := hown g16 fun _ _ => rfl
      refine ⟨hbj, id, hl1, ?_⟩
      obtain ⟨x, hx, hxw⟩ := isHis_some (hSh id hSm)
      obtain ⟨hxC, rfl⟩ := cfind_id' hx
      refine (get_spec wf16 pr16).mono' ?_
      rintro _ g17 hn17 wf17 ⟨rfl, hs17, _⟩
      rw [hx]
      refine ⟨x.1, x.2.1, x.2.2, true, rfl, ?_⟩
      rintro g18 rfl
      refine ⟨_, Hp.st_of Hp.get_alloc_self (Nat.le_of_ble_eq_true rfl), hbj, ?_⟩
      generalize hg19 : (g17.alloc _).set g17.next _ = g19
      have hrow19 : g19.get g17.next = some (.row [.int .u64 x.1, .str x.2.1, .str x.2.2] 1 false) := by rw [← hg19]; exact Hp.get_set_self
      have wf19 : g19.wf := by rw [← hg19]; exact wf17.alloc.set (by simp [Hp.alloc_next])
      have hn19 : g19.next = g17.next + 1 := by rw [← hg19]; rfl
      have hs19 : ∀ j, j < g16.next → g19.get j = g16.get j := fun j hj => by rw [← hg19, Hp.get_set_ne (by omega), Hp.get_alloc_ne (by omega)]; exact hs17 j hj
      clear hg19
      have hGl : ∀ y ∈ G, y < g16.next ∧ y ≠ g10.next := fun y hy => ⟨by have := (Own.rep _ _ _ _).lt wf15 hoS hy; omega, by have := hG y hy; omega⟩
      obtain ⟨q', o', e', hl2, _⟩ := hown g19 fun y hy => hs19 y (hGl y hy).1
      cases e'
      have hsm19 : g19.get g10.next = some oA' := by rw [hs19 _ (by omega)]; exact hsm16
      have hno : mget A' x.1 = none := by
        cases hm : mget A' x.1 with
        | none => rfl
        | some v =>
          rcases (hA' _ _ hm).2 with ⟨d, hd, h2⟩ | h2
          · obtain ⟨y, hy, hyw⟩ := isHis_some h2
            rw [hx] at hy; cases hy
            exact absurd (hyw.symm.trans hxw) (hzd d hd)
          · obtain ⟨i, hi⟩ := List.getElem?_of_mem h2
            rw [List.getElem?_take] at hi
            split at hi
            · rename_i hij
              have h3 := List.pairwise_iff_getElem.1 hSs i j (by omega) hjl hij
              rw [List.getElem?_eq_getElem (by omega)] at hi
              have := Option.some.inj hi
              omega
            · cases hi
      have hlk := moA'.look mtS x.1 g19 g10.next hsm19
      rw [hno] at hlk
      obtain ⟨oB, moB, hputB⟩ := moA'.put mtS x.1 1
      refine ⟨x.1, hl2, 0, hlk, g19.set g10.next oB, hputB g19 g10.next hsm19, ?_⟩
      generalize hg20 : g19.set g10.next oB = g20
      have hsm20 : g20.get g10.next = some oB := by rw [← hg20]; exact Hp.get_set_self
      have hs20 : ∀ j, j ≠ g10.next → g20.get j = g19.get j := fun j hj => by rw [← hg20]; exact Hp.get_set_ne hj
      have wf20 : g20.wf := by rw [← hg20]; exact wf19.set (by omega)
      have hn20 : g20.next = g19.next := by rw [← hg20]; rfl
      clear hg20
      have hrow20 : g20.get g17.next = some (.row [.int .u64 x.1, .str x.2.1, .str x.2.2] 1 false) := by rw [hs20 _ (by omega)]; exact hrow19
      obtain ⟨q', o', e', hl3, hl4⟩ := hown g20 fun y hy => by rw [hs20 y (hGl y hy).2]; exact hs19 y (hGl y hy).1
      cases e'
      have hlk2 := moB.look mtS x.1 g20 g10.next hsm20
      rw [mget_mput, if_pos rfl] at hlk2
      simp only [Bool.not_true, cond_false]
      refine ⟨x.2.1, by rw [Hp.ld_of hrow20]; rfl, ?_⟩
      have e1 : (x.2.1 == z.1) = true := by simp [hxw]
      have e2 : (z.1 == []) = false := by
        have := (whos' x hxC).1
        rw [hxw] at this; simp [this]
      simp only [e1, e2, Bool.not_true, cond_false]
      refine ⟨x.1, by rw [Hp.ld_of hrow20]; rfl, hbj, x.1, hl3, ?_⟩
      simp only [bne_self_eq_false, cond_false]
      refine ⟨hbj, x.1, hl3, 1, hlk2, ?_⟩
      have c7 : ltI 1 1 = false := by decide
      simp only [c7, cond_false]
      have hwj : IntKind.i64.wrap ((j : Int) + 1) = ((j + 1 : Nat) : Int) := wrap_succ (n := 500) (by omega) (by omega)
      have decj : S.length - Int.toNat (IntKind.i64.wrap ((j : Int) + 1)) < S.length - Int.toNat (j : Int) := by
        rw [hwj]; simp only [Int.toNat_natCast]; omega
      have again : ∃ (j2 : Nat) (A' : List (Int × Int)) (oA' : O), IntKind.i64.wrap ((j : Int) + 1) = j2 ∧ j2 ≤ S.length ∧ g20.get g10.next = some oA' ∧ MO kI vI A' oA' ∧
          (∀ id v, mget A' id = some v → v = 1 ∧ ((∃ d ∈ done, isHis (L'.map Buf.con) d.1 id = true) ∨ id ∈ S.take j2)) ∧ (∀ j, j < g15.next → j ≠ g10.next → g20.get j = g15.get j) ∧ g15.next ≤ g20.next ∧ g20.wf := by
        refine ⟨j + 1, _, oB, hwj, by omega, hsm20, moB, fun id v h => ?_, fun y hy hne => ?_, by omega, wf20⟩
        · rw [mget_mput] at h
          rw [List.take_add_one, hSk]
          by_cases e : id = x.1
          · rw [if_pos e] at h
            exact ⟨(Option.some.inj h).symm, .inr (by simp [e])⟩
          · rw [if_neg e] at h
            obtain ⟨h1, h2⟩ := hA' id v h
            exact ⟨h1, h2.imp (fun h => h) fun h => List.mem_append_left _ h⟩
        · rw [hs20 y hne, hs19 y (by omega)]; exact hb16 y hy hne
      by_cases h0 : j = 0
      · have c8 : ltI 0 (↑j) = false := by rw [ltI_eq, decide_eq_false_iff_not]; omega
        simp only [c8, cond_false]
        exact ⟨(by trivial), again, decj⟩
      · have c8 : ltI 0 (↑j) = true := by rw [ltI_eq, decide_eq_true_eq]; omega
        simp only [c8, cond_true]
        have hwm : IntKind.i64.wrap ((j : Int) - 1) = ((j - 1 : Nat) : Int) := by rw [wr (by omega) (by omega)]; omega
        rw [hwm]
        obtain ⟨pv, hpv, hl5⟩ := hl4 (by omega)
        refine ⟨⟨by omega, by omega⟩, pv, hl5, hbj, x.1, hl3, ?_⟩
        have hlt := List.pairwise_iff_getElem.1 hSs (j - 1) j (by omega) hjl (by omega)
        rw [List.getElem?_eq_getElem (by omega)] at hpv
        have e3 := Option.some.inj hpv
        have c9 : ltI pv x.1 = true := by rw [ltI_eq, decide_eq_true_eq]; omega
        rw [c9]
        exact ⟨(by trivial), again, decj⟩
end Go.Vex.PoolOne

namespace Go.Proofs.Yteblfacfbmlceaa.poolOne
open Go.ChangeShapes Go.WideShapes Go.ChangeAt Go.RowKit Go.Vex Go.Vex.PoolOne
open Go.ChangeMaps (open_string shut_string)

theorem own : ownKnob Try.prog.godebug = none := by kernel_rfl

set_option maxRecDepth 100000 in
theorem lifted (os : Os) (started : os.Started) (H : Type) (enc : TypeId × Value → H) :
    ReturnsInHanded {} Try.checked os 6 .any (Rows.poolOneSpec.pre6 enc Try.prog Try.f6 Rows.poolOneRow.domain false) (Rows.poolOneSpec.post enc Try.prog Try.f6 false true false false) := by
  refine returnsInHanded_of_change_sized (C := Try.checked) own started (by kernel_rfl) Try.func6
    (ChangeSpec.witness6 (enc := enc) (C := Try.checked) false ⟨#[], #[.int .u8 0, .slice none 0 0], []⟩ 8 (by kernel_rfl) (by kernel_rfl) (by kernel_rfl) (by kernel_rfl)) ?_
  intro W base args ds gs before hval0 hW hcnd hsz _
  have hval : ∀ (j : Nat) t v, Try.f6.params[j]? = some t → args[j]? = some v → Value.okWide Try.prog W .any base t v := hval0
  have hW' := hW
  obtain ⟨p, q, hA0, hV, rfl, hfz, hnd⟩ := hW
  have hA : DataW.TrodAll enc Try.prog W 0 (fun _ => true) true Try.f6.params.toList args.toList ds p := hA0
  rw [Try.params6] at hA hval hsz
  obtain ⟨v0, vs0, d0, ds0, p0, q0, hargs, rfl, rfl, h0, r0⟩ := trodAll_cons hA
  obtain ⟨v1, vs1, d1, ds1, p1, q1, rfl, rfl, rfl, h1, r1⟩ := trodAll_cons r0
  obtain ⟨rfl, rfl, rfl⟩ := trodAll_nil r1
  obtain rfl : args = #[v0, v1] := by cases args; simp_all
  obtain ⟨rfl, rfl⟩ := trodVars_none hV
  obtain ⟨a0, rfl, rfl, rfl, w0⟩ := open_int Try.underlying5 (hval 0 5 v0 rfl rfl) h0
  obtain ⟨ρ1, hp1, b1, n1, f1, rows1, s1, x1, l1, k1, vr1, ro1, sh1, z1⟩ := arg_sliceN tok (T := Vex.T) (t := 37) (e := 45) (d := 8) (zs := stepZ) rfl rfl rfl rfl (by decide) (hval 1 37 v1 rfl rfl) h1 (fun m hm => hW'.lt m (by simp [hm])) (fun m hm => by simpa using List.all_eq_true.1 hsz m (DataW.weights_mem_each (j := 1) (t := 37) rfl rfl m hm)) (Sat.none W fun _ => ⟨0, 0, 0, 0⟩)
  refine (XCalls.true' s1 (vs := [.int .u8 a0, .slc b1 n1 f1]) ⟨_, _, rfl, rfl, ⟨_, _, rfl, vr1, rfl⟩⟩ (law_calls a0 w0 ro1 sh1 z1)).mono fun e W' ⟨he, hb⟩ => ?_
  subst he
  exact ⟨_, rfl, post_true (by kernel_rfl) hW' hb rfl (fun gs hg => by subst hg; rfl) (tb := 4) rfl Try.underlying4 (by decide +kernel)⟩

theorem over : Rows.poolOneRow.holds Try.pinned (OpenSpec.ofChange Rows.poolOneSpec) :=
  OpenClaim.holds_of_wide 6 Try.f6 rfl rfl rfl rfl rfl rfl rfl ⟨rfl, rfl, rfl, rfl, rfl⟩ rfl rfl rfl rfl rfl (by kernel_rfl) Try.func6 (by kernel_rfl)
    (of_decide_eq_true (by kernel_rfl)) (by unfold Func.isWrapper; first | (rw [if_pos (by decide +kernel)]; kernel_rfl) | (rw [if_neg (by decide +kernel)]; exact ⟨rfl, rfl⟩))
    (fun os started H enc _ => lifted os started H enc)

theorem proved : Rows.PoolOneSaid :=
  over
#print axioms proved
end Go.Proofs.Yteblfacfbmlceaa.poolOne

