/-
  The table's contracts (layer 23): Deaf.
-/
import Derived.Test.YteknlobdnjcdbaaVexFF
import Derived.Test.YteknlobdnjcdbaaVexGG
import Derived.Test.YteknlobdnjcdbaaTab23
import Derived.Test.YteknlobdnjcdbaaXa23
import Derived.Test.YteknlobdnjcdbaaCa23
import Derived.Test.YteknlobdnjcdbaaCb23
import Derived.Test.YteknlobdnjcdbaaCc23
import Derived.Test.YteknlobdnjcdbaaXb23
import Derived.Test.YteknlobdnjcdbaaCe23
import Derived.Test.YteknlobdnjcdbaaCf23
set_option linter.unusedVariables false
set_option linter.unusedSimpArgs false
namespace Go.Vex.Tbl
open Go.Proofs

def deaf1 (c : Nat × TS) (s : Int) : Nat × TS := if (mget c.2.ears s).isSome = true then (c.1 + 1, { c.2 with ears := mdel c.2.ears s }) else c
def deafF (S : TS) (l : List Int) : Nat × TS := l.foldl deaf1 (0, S)

theorem deaf_le (l : List Int) : ∀ c : Nat × TS, (l.foldl deaf1 c).1 ≤ c.1 + l.length := by
  induction l with
  | nil => intro c; simp
  | cons s l ih =>
    intro c
    have := ih (deaf1 c s)
    have h2 : (deaf1 c s).1 ≤ c.1 + 1 := by unfold deaf1; split <;> simp
    simp only [List.foldl_cons, List.length_cons]; omega

section
variable {t : Nat} {S : TS} {h : Hp} {F : List Nat}

theorem deaf_spec (hw : h.wf) (r : TabR t S h F) {x : Option (Nat × Nat)} {f : Bool} {l : List Int} {G : List Nat} (ho : Own 1 x l.length (l.map fun s => [V.int .u64 s]) h G) (hd : ∀ j ∈ G, j ∉ F) (hl : l.length ≤ 100) :
    XCalls Try.prog 16 [.ptr (some (t, 0)), .slc x l.length f] h fun v h' => v = .int .i64 (deafF S l).1 ∧ TabR t (deafF S l).2 h' F ∧ Upd h h' F F ∧ h'.wf := by
  refine XCalls.cps fun K hK => ?_
  apply x16; unfold X16
  refine (made_spec r).mono ?_
  rintro _ h1 ⟨rfl, rfl⟩
  refine ⟨_, rfl, fun vs h' => match vs with
    | [.int _ c, .int _ k] => ∃ k' : Nat, k = k' ∧ k' ≤ l.length ∧ c = (deafF S (l.take k')).1 ∧ TabR t (deafF S (l.take k')).2 h' F ∧ Upd h1 h' F F ∧ h'.wf
    | _ => False, fun vs _ => match vs with
    | [_, .int _ k] => l.length - k.toNat
    | _ => 0, ⟨by trivial, 0, rfl, Nat.zero_le _, rfl, r, Upd.refl _ _, hw⟩, ?_⟩
  rintro bs c k h2 ⟨k, rfl, hk, rfl, r2, u2, w2⟩
  cases hi : ltI (↑k) (↑l.length) with
  | false =>
    rw [ltI_eq, decide_eq_false_iff_not] at hi
    obtain rfl : k = l.length := by omega
    rw [List.take_length] at r2 ⊢
    exact hK _ _ ⟨rfl, r2, u2, w2⟩
  | true =>
  rw [ltI_eq, decide_eq_true_eq] at hi
  have hk' : k < l.length := by omega
  have hwk : IntKind.i64.wrap ((k : Int) + 1) = ((k + 1 : Nat) : Int) := by rw [wr (by omega) (by omega)]; rfl
  have tk : ((k : Int)).toNat = k := by omega
  have ms : l.length - (((k + 1 : Nat) : Int)).toNat < l.length - ((k : Int)).toNat := by omega
  obtain ⟨s, hs⟩ : ∃ s, l[k]? = some s := ⟨_, List.getElem?_eq_getElem hk'⟩
  have hG1 : ∀ j ∈ G, j < h1.next := fun j hj => (Own.rep _ _ _ _).lt hw ho hj
  have ho2 := (Own.rep _ _ _ _).loc _ _ _ (fun j hj => u2.same j (hG1 j hj) (hd j hj)) ho
  obtain ⟨qa, qo, row, rfl, hrow, _, hlds, _⟩ := ho2.ld hk'
  rw [List.getElem?_map, hs] at hrow
  obtain rfl := (Option.some.inj hrow).symm
  have hcl := deaf_le (l.take k) (0, S)
  have htl : (l.take k).length ≤ 100 := by rw [List.length_take]; omega
  have hnext : deafF S (l.take (k + 1)) = deaf1 (deafF S (l.take k)) s := by
    unfold deafF
    rw [List.take_add_one, hs, List.foldl_append]; rfl
  have hcl2 : (deafF S (l.take k)).1 ≤ 0 + (l.take k).length := hcl
  generalize deafF S (l.take k) = D at *
  obtain ⟨c, S2⟩ := D
  dsimp only at *
  obtain ⟨e, oe, hld, hge, hmo, heF, het, hback⟩ := r2.ears
  have hlk := hmo.look2 mtA s h2 e hge
  rw [lookV_getD] at hlk
  have hFl := r2.lt w2
  refine ⟨⟨by omega, hi⟩, s, by rw [tk]; exact hlds 0 (by omega), some e, hld, ((mget S2.ears s).getD ⟨0, 0⟩).ip, ((mget S2.ears s).getD ⟨0, 0⟩).port, _, hlk, ?_⟩
  rintro h3 rfl
  refine ⟨_, Hp.st_of Hp.get_alloc_self (Nat.le_of_ble_eq_true rfl), ?_⟩
  obtain ⟨h5, hh5⟩ : ∃ h5, h5 = (h2.alloc (.row [.int .u32 0, .int .u16 0] 1 false)).set h2.next (.row (splice [.int .u32 0, .int .u16 0] 0 [.int .u32 ((mget S2.ears s).getD ⟨0, 0⟩).ip, .int .u16 ((mget S2.ears s).getD ⟨0, 0⟩).port]) 1 false) := ⟨_, rfl⟩
  rw [← hh5]
  have q5 : Quiet h2 h5 := by rw [hh5]; exact ⟨fun j hj => by rw [Hp.get_set_ne (by omega), Hp.get_alloc_ne (by omega)], by simp [Hp.alloc_next], w2.alloc.set (Nat.lt_succ_self _)⟩
  clear hh5
  have r5 := r2.quiet w2 q5
  have hwc : IntKind.i64.wrap ((c : Int) + 1) = ((c + 1 : Nat) : Int) := by rw [wr (by omega) (by omega)]; rfl
  rw [hwk, hwc]
  cases hl2 : (mget S2.ears s).isSome with
  | true =>
    obtain ⟨o', hmo', hdel⟩ := hmo.del mtA s
    have hge5 : h5.get e = some oe := by rw [q5.same e (hFl e heF)]; exact hge
    have hn : deaf1 (c, S2) s = (c + 1, { S2 with ears := mdel S2.ears s }) := by rw [deaf1, if_pos hl2]
    rw [hn] at hnext
    refine ⟨some e, by rw [r2.ldk (q5.same t (hFl t r2.tF))]; exact hld, _, hdel h5 e hge5, by trivial, ⟨k + 1, rfl, hk', by rw [hnext], ?_, ⟨fun j hj hjF => ?_, fun j hj => .inl hj, ?_⟩, q5.wf.set (by have := hFl e heF; have := q5.le; omega)⟩, ms⟩
    · rw [hnext]
      exact hback _ _ o' hmo' Hp.get_set_self (fun j hj hne => by rw [Hp.get_set_ne hne, q5.same j (hFl j hj)])
    · have := u2.le
      rw [Hp.get_set_ne (fun e' => hjF (by rw [e']; exact heF)), q5.same j (by omega), u2.same j hj hjF]
    · have := u2.le; have := q5.le; show h1.next ≤ h5.next; omega
  | false =>
    have hn : deaf1 (c, S2) s = (c, S2) := by rw [deaf1, if_neg (by rw [hl2]; exact Bool.false_ne_true)]
    rw [hn] at hnext
    exact ⟨by trivial, ⟨k + 1, rfl, hk', by rw [hnext], by rw [hnext]; exact r5, u2.trans (q5.upd F), q5.wf⟩, ms⟩
end
end Go.Vex.Tbl
