/-
  Who is near (layer 9): what NearOnce keeps, without a heap.
-/
import Derived.Test.YtkpkpnmkoejidaaVexEE
import Derived.Test.YtkpkpnmkoejidaaVexFF
import Derived.Test.YtkpkpnmkoejidaaVexGG
import Derived.Test.YtkpkpnmkoejidaaTab09
import Derived.Test.YtkpkpnmkoejidaaXa09
import Derived.Test.YtkpkpnmkoejidaaCa09
import Derived.Test.YtkpkpnmkoejidaaCb09
import Derived.Test.YtkpkpnmkoejidaaCc09
import Derived.Test.YtkpkpnmkoejidaaCd09
import Derived.Test.YtkpkpnmkoejidaaCe09
import Derived.Test.YtkpkpnmkoejidaaCf09
set_option linter.unusedVariables false
set_option linter.unusedSimpArgs false
namespace Go.Vex.Nr
open Go.Proofs

section
variable {κ β : Type} [DecidableEq κ]

/-- several entries taken out -/
def dels (l : List (κ × β)) (ks : List κ) : List (κ × β) := ks.foldl mdel l

theorem dels_sub (ks : List κ) : ∀ l : List (κ × β), List.Sublist (dels l ks) l := by
  induction ks with
  | nil => exact fun l => .refl _
  | cons k ks ih => exact fun l => (ih (mdel l k)).trans (mdel_sub l k)

theorem dels_get (ks : List κ) : ∀ {l : List (κ × β)}, (l.map Prod.fst).Nodup → ∀ q, mget (dels l ks) q = if q ∈ ks then none else mget l q := by
  induction ks with
  | nil => intro l _ q; simp [dels]
  | cons k ks ih =>
    intro l hn q
    have h1 := ih (l := mdel l k) (hn.sublist ((mdel_sub l k).map _)) q
    show mget (dels (mdel l k) ks) q = _
    rw [h1]
    by_cases hq : q ∈ ks
    · rw [if_pos hq, if_pos (List.mem_cons_of_mem _ hq)]
    · rw [if_neg hq]
      by_cases hk : q = k
      · subst hk; rw [mget_self _ _ hn, if_pos (List.mem_cons_self ..)]
      · rw [mget_mdel _ _ _ hk, if_neg (by simp [hk, hq])]

theorem dels_snoc (l : List (κ × β)) (ks : List κ) (k : κ) : dels l (ks ++ [k]) = mdel (dels l ks) k := by simp [dels]
theorem dels_app (l : List (κ × β)) (ks ks' : List κ) : dels l (ks ++ ks') = dels (dels l ks) ks' := by simp [dels]

theorem dels_len (ks : List κ) : ∀ {l : List (κ × β)}, (l.map Prod.fst).Nodup → ks.Nodup → (∀ k ∈ ks, mget l k ≠ none) → (dels l ks).length + ks.length = l.length := by
  induction ks with
  | nil => intro l _ _ _; rfl
  | cons k ks ih =>
    intro l hn hk ha
    rw [List.nodup_cons] at hk
    have h1 := mdel_len l k (ha k (List.mem_cons_self ..))
    have h2 := ih (l := mdel l k) (hn.sublist ((mdel_sub l k).map _)) hk.2 (fun q hq => by
      rw [mget_mdel l k q (fun e => hk.1 (e ▸ hq))]; exact ha q (List.mem_cons_of_mem _ hq))
    show (dels (mdel l k) ks).length + (ks.length + 1) = _
    omega
end

theorem held_new {es : List (Int × En)} {ip : Int} (h : mget es ip = none) (e' : En) : held' (mput es ip e') = held' es + e'.ws.length := by
  rw [mput_none _ _ _ h]; unfold held'; simp

theorem held_put {ip : Int} {e : En} (e' : En) : ∀ {es : List (Int × En)}, mget es ip = some e → held' (mput es ip e') + e.ws.length = held' es + e'.ws.length
  | [], h => by cases h
  | x :: l, h => by
    rw [mget_cons] at h
    unfold mput
    by_cases hx : ip = x.1
    · rw [if_pos hx] at h ⊢
      cases h
      unfold held'; simp only [List.map_cons, List.sum_cons]; omega
    · rw [if_neg hx] at h ⊢
      have := held_put e' h
      unfold held' at this ⊢; simp only [List.map_cons, List.sum_cons]; omega

theorem held_del {ip : Int} {e : En} : ∀ {es : List (Int × En)}, mget es ip = some e → held' (mdel es ip) + e.ws.length = held' es
  | [], h => by cases h
  | x :: l, h => by
    rw [mget_cons] at h
    unfold mdel
    by_cases hx : ip = x.1
    · rw [if_pos hx] at h ⊢
      cases h
      unfold held'; simp only [List.map_cons, List.sum_cons]; omega
    · rw [if_neg hx] at h ⊢
      have := held_del h
      unfold held' at this ⊢; simp only [List.map_cons, List.sum_cons]; omega

theorem held_le {es : List (Int × En)} {ip : Int} {e : En} (h : mget es ip = some e) : e.ws.length ≤ held' es := by
  have := held_del h; omega

theorem mput_len {es : List (Int × En)} {ip : Int} (e' : En) : (mput es ip e').length = if mget es ip = none then es.length + 1 else es.length := by
  by_cases h : mget es ip = none
  · rw [if_pos h, mput_none _ _ _ h]; simp
  · rw [if_neg h]
    have := congrArg List.length (mput_some es ip e' h)
    simpa using this

structure EOk (cf : Cf) (now : Int) (W : List (Int × Int)) (ip : Int) (e : En) : Prop where
  inc : e.ws.Pairwise (· < ·)
  win : ∀ x ∈ e.ws, mget W x = some ip
  st : e.ws ≠ [] → e.st = 1
  ask : e.st = 1 → 1 ≤ e.asked ∧ e.asked ≤ cf.asks ∧ e.at' ≤ now + cf.pause

/-- the near one and the law's map of what waits -/
structure Inv (cf : Cf) (S : NS) (W : List (Int × Int)) (i : Nat) : Prop where
  hcf : S.cf = cf
  nd : (S.es.map Prod.fst).Nodup
  len : (S.es.length : Int) ≤ cf.most
  held : S.held = held' S.es
  hw : (held' S.es : Int) ≤ cf.waits
  wnd : (W.map Prod.fst).Nodup
  wlen : W.length = held' S.es
  wlt : ∀ x, mget W x ≠ none → 0 ≤ x ∧ x < i
  ent : ∀ ip e, mget S.es ip = some e → EOk cf S.now W ip e
  back : ∀ x ip, mget W x = some ip → ∃ e, mget S.es ip = some e ∧ x ∈ e.ws
  t0 : 0 ≤ S.now

variable {cf : Cf} {S : NS} {W : List (Int × Int)} {i : Nat}

theorem Inv.weak (h : Inv cf S W i) : Inv cf S W (i + 1) :=
  ⟨h.hcf, h.nd, h.len, h.held, h.hw, h.wnd, h.wlen, fun x hx => by have := h.wlt x hx; omega, h.ent, h.back, h.t0⟩

theorem Inv.wsok (h : Inv cf S W i) (ok : CfOk cf) : WsOk S := fun ip e he => by
  have h1 := held_le he
  have h2 := h.hw
  have h3 := ok.waits
  omega

theorem Inv.time (h : Inv cf S W i) {now : Int} (h1 : S.now ≤ now) (h2 : now ≤ 17592186044416) : Inv cf (timeF S now) W i ∧ (timeF S now).now = now := by
  have e : (timeF S now).now = now := by show max S.now (min now 17592186044416) = now; omega
  exact ⟨⟨h.hcf, h.nd, h.len, h.held, h.hw, h.wnd, h.wlen, h.wlt, fun ip x hx => by
    have := h.ent ip x hx
    exact ⟨this.inc, this.win, this.st, fun hs => by have := this.ask hs; rw [e]; omega⟩, h.back, by rw [e]; have := h.t0; omega⟩, e⟩

/-- an entry turned, what waits for it stays -/
theorem Inv.put1 (h : Inv cf S W i) {ip : Int} {e e' : En} (he : mget S.es ip = some e) (hws : e'.ws = e.ws) (ho : EOk cf S.now W ip e') : Inv cf { S with es := mput S.es ip e' } W i := by
  have hh := held_put e' he
  rw [hws] at hh
  have hh : held' (mput S.es ip e') = held' S.es := by omega
  refine ⟨h.hcf, mput_nd h.nd _ _, ?_, by show S.held = held' (mput S.es ip e'); rw [hh]; exact h.held, by show (held' (mput S.es ip e') : Int) ≤ _; rw [hh]; exact h.hw, h.wnd, by show W.length = held' (mput S.es ip e'); rw [hh]; exact h.wlen, h.wlt, fun y x hx => ?_, fun x y hx => ?_, h.t0⟩
  · show ((mput S.es ip e').length : Int) ≤ _
    rw [mput_len, if_neg (by rw [he]; simp)]; exact h.len
  · have hx : mget (mput S.es ip e') y = some x := hx
    rw [mget_mput] at hx
    by_cases hy : y = ip
    · rw [if_pos hy] at hx; cases hx; rw [hy]; exact ho
    · rw [if_neg hy] at hx; exact h.ent y x hx
  · obtain ⟨e0, h1, h2⟩ := h.back x y hx
    show ∃ e, mget (mput S.es ip e') y = some e ∧ x ∈ e.ws
    rw [mget_mput]
    by_cases hy : y = ip
    · rw [if_pos hy]
      rw [hy, he] at h1; cases h1
      exact ⟨e', rfl, by rw [hws]; exact h2⟩
    · rw [if_neg hy]; exact ⟨e0, h1, h2⟩

/-- one more waits -/
theorem Inv.wait (h : Inv cf S W i) {ip : Int} {w0 : List Int} {e' : En} (hw0 : (∃ e, mget S.es ip = some e ∧ e.ws = w0) ∨ (mget S.es ip = none ∧ w0 = [] ∧ (S.es.length : Int) < cf.most)) (hws : e'.ws = w0 ++ [(i : Int)]) (hst : e'.st = 1) (hask : 1 ≤ e'.asked ∧ e'.asked ≤ cf.asks ∧ e'.at' ≤ S.now + cf.pause) (hhe : S.held < cf.waits) (hb : cf.waits ≤ 1000000) :
    Inv cf { S with held := IntKind.i64.wrap (S.held + 1), es := mput S.es ip e' } (mput W i ip) (i + 1) := by
  have hno : mget W (i : Int) = none := by
    cases hh : mget W (i : Int) with
    | none => rfl
    | some x => have := h.wlt i (by rw [hh]; simp); omega
  have hheld := h.held
  have hw1 : ∀ x ∈ w0, mget W x = some ip := by
    rcases hw0 with ⟨e, he, rfl⟩ | ⟨_, rfl, _⟩
    · exact (h.ent ip e he).win
    · simp
  have hinc : w0.Pairwise (· < ·) := by
    rcases hw0 with ⟨e, he, rfl⟩ | ⟨_, rfl, _⟩
    · exact (h.ent ip e he).inc
    · exact .nil
  have hbk : ∀ x, mget W x = some ip → x ∈ w0 := fun x hx => by
    obtain ⟨e0, h1, h2⟩ := h.back x ip hx
    rcases hw0 with ⟨e, he, rfl⟩ | ⟨hn, rfl, _⟩
    · rw [he] at h1; cases h1; exact h2
    · rw [hn] at h1; cases h1
  have hh : held' (mput S.es ip e') = held' S.es + 1 := by
    rcases hw0 with ⟨e, he, rfl⟩ | ⟨hn, rfl, _⟩
    · have := held_put e' he; rw [hws] at this; simp at this; omega
    · rw [held_new hn, hws]; simp
  have hwr : IntKind.i64.wrap (S.held + 1) = S.held + 1 := wr (by omega) (by omega)
  have hlt : ∀ x ∈ w0, x < (i : Int) := fun x hx => (h.wlt x (by rw [hw1 x hx]; simp)).2
  refine ⟨h.hcf, mput_nd h.nd _ _, ?_, by show IntKind.i64.wrap (S.held + 1) = ((held' (mput S.es ip e') : Nat) : Int); rw [hwr, hh]; push_cast; omega, by show ((held' (mput S.es ip e') : Nat) : Int) ≤ _; rw [hh]; push_cast; omega, mput_nd h.wnd _ _, ?_, fun x hx => ?_, fun y x hx => ?_, fun x y hx => ?_, h.t0⟩
  · show ((mput S.es ip e').length : Int) ≤ _
    rw [mput_len]
    have := h.len
    rcases hw0 with ⟨e, he, _⟩ | ⟨hn, _, hl⟩
    · rw [if_neg (by rw [he]; simp)]; exact this
    · rw [if_pos hn]; push_cast; omega
  · show (mput W (i : Int) ip).length = held' (mput S.es ip e')
    rw [mput_none _ _ _ hno, hh, ← h.wlen]; simp
  · rw [mget_mput] at hx
    by_cases e : x = i
    · rw [e]; omega
    · rw [if_neg e] at hx; have := h.wlt x hx; omega
  · have hx : mget (mput S.es ip e') y = some x := hx
    rw [mget_mput] at hx
    by_cases hy : y = ip
    · rw [if_pos hy] at hx; cases hx
      refine ⟨?_, fun x hx => ?_, fun _ => hst, fun _ => hask⟩
      · rw [hws, List.pairwise_append]
        exact ⟨hinc, List.pairwise_singleton _ _, fun a ha b hb => by rw [List.mem_singleton] at hb; rw [hb]; exact hlt a ha⟩
      · rw [hws, List.mem_append, List.mem_singleton] at hx
        rw [mget_mput, hy]
        rcases hx with hx | hx
        · rw [if_neg (by have := hlt x hx; omega)]; exact hw1 x hx
        · rw [if_pos hx]
    · rw [if_neg hy] at hx
      have := h.ent y x hx
      exact ⟨this.inc, fun z hz => by
        have h1 := this.win z hz
        rw [mget_mput, if_neg (fun e => by rw [e, hno] at h1; cases h1)]; exact h1, this.st, this.ask⟩
  · rw [mget_mput] at hx
    show ∃ e, mget (mput S.es ip e') y = some e ∧ x ∈ e.ws
    rw [mget_mput]
    by_cases e : x = i
    · rw [if_pos e] at hx; cases hx
      rw [if_pos rfl]
      exact ⟨e', rfl, by rw [hws, e]; simp⟩
    · rw [if_neg e] at hx
      by_cases hy : y = ip
      · rw [if_pos hy]
        exact ⟨e', rfl, by rw [hws]; exact List.mem_append_left _ (hbk x (hy ▸ hx))⟩
      · rw [if_neg hy]; exact h.back x y hx

/-- what waits for one goes -/
theorem Inv.clear (h : Inv cf S W i) {ip : Int} {out : List Int} {es' : List (Int × En)} {hd : Int} (ho : (∃ e, mget S.es ip = some e ∧ out = e.ws) ∨ (mget S.es ip = none ∧ out = [])) (hn : (es'.map Prod.fst).Nodup) (hl : (es'.length : Int) ≤ cf.most) (hold : ∀ y, y ≠ ip → mget es' y = mget S.es y)
    (hne : ∀ e, mget es' ip = some e → e.ws = [] ∧ e.st ≠ 1) (hh : held' es' + out.length = held' S.es) (hhd : hd = (held' es' : Nat)) : Inv cf { S with held := hd, es := es' } (dels W out) i ∧ out.Nodup ∧ out.Pairwise (· < ·) ∧ ∀ x ∈ out, mget W x = some ip := by
  have hw1 : ∀ x ∈ out, mget W x = some ip := by
    rcases ho with ⟨e, he, rfl⟩ | ⟨_, rfl⟩
    · exact (h.ent ip e he).win
    · simp
  have hinc : out.Pairwise (· < ·) := by
    rcases ho with ⟨e, he, rfl⟩ | ⟨_, rfl⟩
    · exact (h.ent ip e he).inc
    · exact .nil
  have hbk : ∀ x, mget W x = some ip → x ∈ out := fun x hx => by
    obtain ⟨e0, h1, h2⟩ := h.back x ip hx
    rcases ho with ⟨e, he, rfl⟩ | ⟨hn, rfl⟩
    · rw [he] at h1; cases h1; exact h2
    · rw [hn] at h1; cases h1
  have hnd : out.Nodup := hinc.imp fun h => by omega
  have hlen := dels_len out h.wnd hnd (fun x hx => by rw [hw1 x hx]; simp)
  refine ⟨⟨h.hcf, hn, hl, hhd, ?_, h.wnd.sublist ((dels_sub out W).map _), ?_, fun x hx => ?_, fun y x hx => ?_, fun x y hx => ?_, h.t0⟩, hnd, hinc, hw1⟩
  · show ((held' es' : Nat) : Int) ≤ _
    have := h.hw; omega
  · show (dels W out).length = held' es'
    have := h.wlen; omega
  · rw [dels_get _ h.wnd] at hx
    refine h.wlt x fun hh => hx ?_
    rw [hh]; split <;> rfl
  · have hx : mget es' y = some x := hx
    by_cases hy : y = ip
    · rw [hy] at hx
      obtain ⟨h1, h2⟩ := hne x hx
      exact ⟨by rw [h1]; exact .nil, by rw [h1]; simp, fun hh => absurd h1 hh, fun hh => absurd hh h2⟩
    · rw [hold y hy] at hx
      have := h.ent y x hx
      exact ⟨this.inc, fun z hz => by
        have h1 := this.win z hz
        rw [dels_get _ h.wnd, if_neg (fun hz2 => by rw [hw1 z hz2] at h1; cases h1; exact hy rfl)]; exact h1, this.st, this.ask⟩
  · rw [dels_get _ h.wnd] at hx
    by_cases hz : x ∈ out
    · rw [if_pos hz] at hx; cases hx
    · rw [if_neg hz] at hx
      have hy : y ≠ ip := fun e => hz (hbk x (e ▸ hx))
      show ∃ e, mget es' y = some e ∧ x ∈ e.ws
      rw [hold y hy]
      exact h.back x y hx

theorem Inv.find (h : Inv cf S W i) (ok : CfOk cf) (hnow : S.now ≤ 17592186044416) (ip : Int) : (∃ mac as', (findG S ip i).1 = (mac, true, as', 0) ∧ Inv cf (findG S ip i).2 W (i + 1)) ∨ ((findG S ip i).1 = (0, false, false, 6) ∧ Inv cf (findG S ip i).2 W (i + 1)) ∨
    (∃ as', (findG S ip i).1 = (0, false, as', 0) ∧ Inv cf (findG S ip i).2 (mput W i ip) (i + 1)) := by
  have okw := ok.waits
  have oka := ok.asks
  have okp := ok.pause
  have ht := h.t0
  unfold findG
  cases he : mget S.es ip with
  | some e =>
    by_cases h1 : e.st ≠ 1
    · left
      simp only [if_pos h1]
      refine ⟨_, _, rfl, ?_⟩
      split
      · have ho := h.ent ip e he
        exact (h.put1 (e' := askE S e) he rfl ⟨ho.inc, ho.win, ho.st, fun hh => absurd hh h1⟩).weak
      · exact h.weak
    · right
      simp only [if_neg h1]
      by_cases h2 : ¬ (e.ws.length : Int) < S.cf.each ∨ ¬ S.held < S.cf.waits
      · left
        simp only [if_pos h2]
        exact ⟨by trivial, h.weak⟩
      · right
        simp only [if_neg h2]
        have ho := h.ent ip e he
        refine ⟨_, rfl, h.wait (w0 := e.ws) (.inl ⟨e, he, rfl⟩) rfl (by show e.st = 1; omega) (ho.ask (by omega)) (by rw [← h.hcf]; omega) (by omega)⟩
  | none =>
    right
    simp only
    by_cases h2 : ¬ (S.es.length : Int) < S.cf.most ∨ ¬ 0 < S.cf.each ∨ ¬ S.held < S.cf.waits
    · left
      rw [if_pos h2]
      exact ⟨rfl, h.weak⟩
    · right
      rw [if_neg h2]
      refine ⟨_, rfl, h.wait (w0 := []) (.inr ⟨he, rfl, by rw [← h.hcf]; omega⟩) rfl rfl ?_ (by rw [← h.hcf]; omega) (by omega)⟩
      have hw1 : IntKind.i64.wrap (S.now + S.cf.pause) = S.now + cf.pause := by rw [h.hcf]; exact wr (by omega) (by omega)
      refine ⟨by show (1 : Int) ≤ IntKind.i64.wrap (0 + 1); decide, by show IntKind.i64.wrap (0 + 1) ≤ _; rw [wr (by omega) (by omega)]; omega, ?_⟩
      show IntKind.i64.wrap (S.now + S.cf.pause) ≤ _
      rw [hw1]; omega

theorem Inv.hear (h : Inv cf S W i) (ok : CfOk cf) (ip mac : Int) (asked : Bool) : Inv cf (hearG S ip mac asked).2 (dels W (hearG S ip mac asked).1) i ∧ (hearG S ip mac asked).1.Nodup ∧ (hearG S ip mac asked).1.Pairwise (· < ·) ∧ ∀ x ∈ (hearG S ip mac asked).1, mget W x = some ip := by
  have okw := ok.waits
  have hw := h.hw
  have hhe := h.held
  unfold hearG
  cases he : mget S.es ip with
  | some e =>
    have hp := held_put (eHeard S mac) he
    have hz : (eHeard S mac).ws.length = 0 := rfl
    have hl := h.len
    simp only
    refine h.clear (ip := ip) (.inl ⟨e, he, rfl⟩) (mput_nd h.nd _ _) (by rw [mput_len, if_neg (by rw [he]; simp)]; exact hl) (fun y hy => by rw [mget_mput, if_neg hy]) (fun x hx => by rw [mget_mput, if_pos rfl] at hx; cases hx; exact ⟨rfl, by show (2 : Int) ≠ 1; decide⟩) (by omega) ?_
    rw [wr (by omega) (by omega)]; omega
  | none =>
    simp only
    by_cases h2 : asked = false ∨ ¬ (S.es.length : Int) < S.cf.most
    · rw [if_pos h2]
      exact ⟨h, by simp, by simp, by simp⟩
    · rw [if_neg h2]
      have hp := held_new he (eHeard S mac)
      have hz : (eHeard S mac).ws.length = 0 := rfl
      have hcf := h.hcf
      refine h.clear (ip := ip) (.inr ⟨he, rfl⟩) (mput_nd h.nd _ _) (by rw [mput_len, if_pos he, ← hcf]; push_cast; omega) (fun y hy => by rw [mget_mput, if_neg hy]) (fun x hx => by rw [mget_mput, if_pos rfl] at hx; cases hx; exact ⟨rfl, by show (2 : Int) ≠ 1; decide⟩) (by simp; omega) ?_
      rw [wr (by omega) (by omega)]; simp; omega

theorem Inv.tick1 {c : TSt} (h : Inv cf c.S W i) (ok : CfOk cf) (hnow : c.S.now ≤ 17592186044416) (ip : Int) : ∃ out, (tick1 c ip).lost = c.lost ++ out ∧ (tick1 c ip).S.now = c.S.now ∧ Inv cf (tick1 c ip).S (dels W out) i ∧ out.Nodup ∧ ∀ x ∈ out, mget W x = some ip := by
  have okw := ok.waits
  have oka := ok.asks
  have okp := ok.pause
  have ht := h.t0
  have hw := h.hw
  have hhe := h.held
  cases he : mget c.S.es ip with
  | none =>
    have e : Nr.tick1 c ip = c := by unfold Nr.tick1; rw [he]
    rw [e]
    exact ⟨[], by simp, rfl, h, by simp, by simp⟩
  | some e =>
    have ho := h.ent ip e he
    by_cases h1 : c.S.now < e.at'
    · rw [tick1_none he h1]
      exact ⟨[], by simp, rfl, h, by simp, by simp⟩
    by_cases h2 : e.st = 2
    · rw [tick1_stale he h1 h2]
      refine ⟨[], by simp, rfl, ?_, by simp, by simp⟩
      refine h.put1 (e' := { e with st := 3, asked := 0, at' := IntKind.i64.wrap (c.S.now + c.S.cf.known) }) he rfl ⟨ho.inc, ho.win, fun hh => ?_, fun hh => ?_⟩
      · have := ho.st hh; omega
      · have hh : (3 : Int) = 1 := hh; omega
    by_cases h3 : (e.st = 3 ∧ e.asked = 0) ∨ ¬ e.asked < c.S.cf.asks
    · rw [tick1_lose he h1 h2 h3]
      have hp := held_del he
      obtain ⟨k1, k2, _, k3⟩ := h.clear (ip := ip) (out := e.ws) (es' := mdel c.S.es ip) (hd := IntKind.i64.wrap (c.S.held - e.ws.length)) (.inl ⟨e, he, rfl⟩) (h.nd.sublist ((mdel_sub _ _).map _)) (by have := (mdel_sub c.S.es ip).length_le; have := h.len; omega) (fun y hy => mget_mdel _ _ _ hy) (fun x hx => by rw [mget_self _ _ h.nd] at hx; cases hx) hp (by rw [wr (by omega) (by omega)]; omega)
      exact ⟨e.ws, rfl, rfl, k1, k2, k3⟩
    · rw [tick1_ask he h1 h2 h3]
      refine ⟨[], by simp, rfl, ?_, by simp, by simp⟩
      refine h.put1 (e' := askE c.S e) he rfl ⟨ho.inc, ho.win, ho.st, fun hh => ?_⟩
      have ha := ho.ask hh
      have hcf := h.hcf
      rw [hcf] at h3
      show 1 ≤ IntKind.i64.wrap (e.asked + 1) ∧ IntKind.i64.wrap (e.asked + 1) ≤ cf.asks ∧ IntKind.i64.wrap (c.S.now + c.S.cf.pause) ≤ c.S.now + cf.pause
      rw [wr (x := e.asked + 1) (by omega) (by omega), hcf, wr (x := c.S.now + cf.pause) (by omega) (by omega)]
      have : e.asked < cf.asks := by omega
      omega

theorem Inv.ticks (ok : CfOk cf) : ∀ (ks : List Int) {c : TSt} {W : List (Int × Int)}, Inv cf c.S W i → c.S.now ≤ 17592186044416 → ∃ out, (ks.foldl Nr.tick1 c).lost = c.lost ++ out ∧ (ks.foldl Nr.tick1 c).S.now = c.S.now ∧ Inv cf (ks.foldl Nr.tick1 c).S (dels W out) i ∧ out.Nodup ∧ ∀ x ∈ out, mget W x ≠ none
  | [], c, W, h, _ => ⟨[], by simp, rfl, h, by simp, by simp⟩
  | k :: ks, c, W, h, hn => by
    obtain ⟨o1, l1, n1, i1, d1, w1⟩ := h.tick1 ok hn k
    obtain ⟨o2, l2, n2, i2, d2, w2⟩ := Inv.ticks ok ks i1 (by rw [n1]; exact hn)
    have hw2 : ∀ x ∈ o2, x ∉ o1 ∧ mget W x ≠ none := fun x hx => by
      have := w2 x hx
      rw [dels_get _ h.wnd] at this
      by_cases hz : x ∈ o1
      · rw [if_pos hz] at this; exact absurd rfl this
      · rw [if_neg hz] at this; exact ⟨hz, this⟩
    refine ⟨o1 ++ o2, ?_, n2.trans n1, by rw [dels_app]; exact i2, List.nodup_append.2 ⟨d1, d2, fun a ha b hb e => (hw2 b hb).1 (e ▸ ha)⟩, fun x hx => ?_⟩
    · show (ks.foldl Nr.tick1 (Nr.tick1 c k)).lost = _
      rw [l2, l1, List.append_assoc]
    · rcases List.mem_append.1 hx with h1 | h1
      · rw [w1 x h1]; simp
      · exact (hw2 x h1).2

/-- those that are asked were asked so often -/
def Phase (S : NS) (j : Int) : Prop := ∀ ip e, mget S.es ip = some e → e.st = 1 → j < e.asked

theorem tick1_phase {c : TSt} (h : Inv cf c.S W i) (ok : CfOk cf) (ip : Int) {e' : En} (he' : mget (Nr.tick1 c ip).S.es ip = some e') (hst : e'.st = 1) : ∃ e, mget c.S.es ip = some e ∧ e.st = 1 ∧ (c.S.now < e.at' ∨ e'.asked = e.asked + 1) := by
  have oka := ok.asks
  cases he : mget c.S.es ip with
  | none =>
    have e : Nr.tick1 c ip = c := by unfold Nr.tick1; rw [he]
    rw [e, he] at he'; cases he'
  | some e =>
    have ho := h.ent ip e he
    by_cases h1 : c.S.now < e.at'
    · rw [tick1_none he h1, he] at he'
      cases he'
      exact ⟨e', rfl, hst, .inl h1⟩
    by_cases h2 : e.st = 2
    · rw [tick1_stale he h1 h2] at he'
      have he' : mget (mput c.S.es ip _) ip = some e' := he'
      rw [mget_mput, if_pos rfl] at he'
      cases he'
      have hst : (3 : Int) = 1 := hst
      omega
    by_cases h3 : (e.st = 3 ∧ e.asked = 0) ∨ ¬ e.asked < c.S.cf.asks
    · rw [tick1_lose he h1 h2 h3] at he'
      have he' : mget (mdel c.S.es ip) ip = some e' := he'
      rw [mget_self _ _ h.nd] at he'; cases he'
    · rw [tick1_ask he h1 h2 h3] at he'
      have he' : mget (mput c.S.es ip (askE c.S e)) ip = some e' := he'
      rw [mget_mput, if_pos rfl] at he'
      cases he'
      have hst : e.st = 1 := hst
      have ha := ho.ask hst
      exact ⟨e, rfl, hst, .inr (by show IntKind.i64.wrap (e.asked + 1) = _; exact wr (by omega) (by omega))⟩

theorem ticks_phase (ok : CfOk cf) : ∀ (ks : List Int) {c : TSt} {W : List (Int × Int)}, Inv cf c.S W i → c.S.now ≤ 17592186044416 → ks.Nodup → ∀ ip ∈ ks, ∀ e', mget (ks.foldl Nr.tick1 c).S.es ip = some e' → e'.st = 1 → ∃ e, mget c.S.es ip = some e ∧ e.st = 1 ∧ (c.S.now < e.at' ∨ e'.asked = e.asked + 1)
  | [], c, W, h, _, _, ip, hip, _, _, _ => by cases hip
  | k :: ks, c, W, h, hn, hnd, ip, hip, e', he', hst => by
    rw [List.nodup_cons] at hnd
    obtain ⟨o1, l1, n1, i1, d1, w1⟩ := h.tick1 ok hn k
    have he' : mget (ks.foldl Nr.tick1 (Nr.tick1 c k)).S.es ip = some e' := he'
    by_cases hk : ip = k
    · subst hk
      have hf := (ticks_facts ks (Nr.tick1 c ip) (i1.wsok ok) i1.nd).2.2.2.2 ip hnd.1
      rw [hf] at he'
      exact tick1_phase h ok ip he' hst
    · have hip2 : ip ∈ ks := by
        rcases List.mem_cons.1 hip with h1 | h1
        · exact absurd h1 hk
        · exact h1
      obtain ⟨e, h1, h2, h3⟩ := ticks_phase ok ks i1 (by rw [n1]; exact hn) hnd.2 ip hip2 e' he' hst
      rw [tick1_get c k ip hk] at h1
      rw [n1] at h3
      exact ⟨e, h1, h2, h3⟩

theorem Inv.phase (h : Inv cf S W i) (ok : CfOk cf) {now : Int} (hn : now = S.now + cf.pause) (hb : now ≤ 17592186044416) {ks : List Int} (hp : ks.Perm (S.es.map Prod.fst)) {j : Int} (ph : Phase S j) : Phase (Nr.ticks (timeF S now) ks).S (j + 1) := by
  have okp := ok.pause
  obtain ⟨h1, e1⟩ := h.time (now := now) (by omega) hb
  intro ip e' he' hst
  have hnd : ks.Nodup := hp.nodup_iff.2 h.nd
  have hmem : ip ∈ ks := by
    apply Decidable.byContradiction
    intro hh
    have hf := (ticks_facts ks ⟨timeF S now, [], []⟩ (h1.wsok ok) h1.nd).2.2.2.2 ip hh
    have he2 : mget (ks.foldl Nr.tick1 ⟨timeF S now, [], []⟩).S.es ip = some e' := he'
    rw [hf] at he2
    exact hh (hp.symm.subset ((mget_mem S.es ip).1 (by show mget (timeF S now).es ip ≠ none; rw [he2]; simp)))
  obtain ⟨e, k1, k2, k3⟩ := ticks_phase ok ks (c := ⟨timeF S now, [], []⟩) h1 (by show (timeF S now).now ≤ _; rw [e1]; exact hb) hnd ip hmem e' he' hst
  have k1 : mget S.es ip = some e := k1
  have hat := (h.ent ip e k1).ask k2
  have hph := ph ip e k1 k2
  rcases k3 with k3 | k3
  · have k3 : (timeF S now).now < e.at' := k3
    rw [e1] at k3
    omega
  · omega

/-- in the end nobody waits -/
theorem Inv.done (h : Inv cf S W i) {j : Int} (ph : Phase S j) (hj : cf.asks ≤ j) : held' S.es = 0 := by
  rw [← h.wlen]
  cases hW : W with
  | nil => rfl
  | cons x l =>
    have hx : mget W x.1 = some x.2 := by rw [hW, mget_cons, if_pos rfl]
    obtain ⟨e, h1, h2⟩ := h.back x.1 x.2 hx
    have ho := h.ent x.2 e h1
    have hst := ho.st (fun hh => by rw [hh] at h2; cases h2)
    have := ho.ask hst
    have := ph x.2 e h1 hst
    omega

theorem Inv.start (ok : CfOk cf) : Inv cf ⟨cf, 0, 0, []⟩ [] 0 :=
  ⟨rfl, (by simp), (by have := ok.most; simp; omega), rfl, (by have := ok.waits; show ((0 : Nat) : Int) ≤ _; omega), (by simp), rfl, fun x hx => absurd rfl hx, fun ip e he => (by cases he), fun x ip hx => (by cases hx), Int.le_refl _⟩
end Go.Vex.Nr
