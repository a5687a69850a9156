/-
  Contracts of bytes that are sent (layer 26).
-/
import Derived.Test.YtkdjjjpfkdkgoaaVexAA
import Derived.Test.YtkdjjjpfkdkgoaaTab26
import Derived.Test.YtkdjjjpfkdkgoaaXa26
set_option linter.unusedVariables false
set_option linter.unusedSimpArgs false
namespace Go.Vex
open Go.Proofs

theorem t68 : ∃ ti, T 68 = some ti ∧ ti.d = .slc 5 := ⟨_, rfl, rfl⟩
theorem t9 : ∃ ti, T 9 = some ti ∧ ti.d = .str := ⟨_, rfl, rfl⟩
theorem t5 : ∃ ei, T 5 = some ei ∧ ei.d = .int .u8 ∧ ei.size = 1 ∧ ei.bytes = 1 ∧ zok ei = true := ⟨_, rfl, rfl, rfl, rfl, rfl⟩

def bRow (b : UInt8) : List V := [.int .u8 b.toNat]
def bRows (s : List UInt8) : List (List V) := s.map bRow

theorem bRows_flat (s : List UInt8) : (bRows s).flatten = byteV s := by
  induction s with
  | nil => rfl
  | cons b s ih => simp only [bRows, List.map_cons, List.flatten_cons] at ih ⊢; rw [ih]; rfl

theorem bRows_one (s : List UInt8) : ∀ r ∈ bRows s, r.length = 1 := fun r hr => by
  obtain ⟨b, _, rfl⟩ := List.mem_map.1 hr; rfl

theorem bytesOf_byteV (s : List UInt8) : bytesOf (byteV s) = some s := by
  induction s with
  | nil => rfl
  | cons b s ih =>
    simp only [byteV, List.map_cons, bytesOf] at ih ⊢
    rw [ih]
    simp

/-- 'string(x[l:m])' -/
theorem Own.text {h : Hp} {F : List Nat} {a : Option (Nat × Nat)} {n : Nat} {f : Bool} {s : List UInt8} (ho : Own 1 a n (bRows s) h F) {l m : Nat} (hl : l ≤ m) (hm : m ≤ n) (h0 : a ≠ none ∨ n = 0) :
    ∃ a' n' f', xslice T h 68 (.slc a n f) (some (.int .i64 l)) (some (.int .i64 m)) none = some (.slc a' n' f') ∧ xconv T h 68 9 (.slc a' n' f') = some (.str ((s.drop l).take (m - l))) := by
  obtain ⟨ti, ht, hd⟩ := t68
  obtain ⟨ei, he, ed, es, _⟩ := t5
  obtain ⟨ui, hu, ud⟩ := t9
  have hn := ho.1
  obtain ⟨h1, h2, h3⟩ := ho
  cases a with
  | none =>
    rcases h0 with h0 | rfl
    · exact absurd rfl h0
    · obtain rfl : m = 0 := by omega
      obtain rfl : l = 0 := by omega
      refine ⟨none, 0, true, by simp [xslice, ht, hd, he, bnd], ?_⟩
      simp [xconv, ht, hd, hu, ud, he, ed]
  | some p =>
    obtain ⟨q, o⟩ := p
    obtain ⟨rfl, front, rfl, hg⟩ := h3
    have hsl : s.length = n := by simpa [bRows] using h1
    refine ⟨some (q, front.length + l), m - l, f && Nat.beq m n, by simp [xslice, ht, hd, he, hg, bnd, es, hl, hm], ?_⟩
    have hcut : cut (front ++ (bRows s).flatten) (front.length + l) (m - l) = some (byteV ((s.drop l).take (m - l))) := by
      unfold cut
      rw [bRows_flat]
      have : Nat.ble (front.length + l + (m - l)) (front ++ byteV s).length = true := by
        rw [ble_eq', decide_eq_true_eq]; simp [byteV]; omega
      rw [this]
      simp only [cond_true, Option.some.injEq]
      rw [← List.drop_drop, List.drop_left]
      simp [byteV, List.map_drop, List.map_take]
    simp [xconv, ht, hd, hu, ud, he, ed, hg, hcut, bytesOf_byteV]

def outRow (una : Int) (s : V) (sent most : Int) : O := .row [.int .u32 una, s, .int .i64 sent, .int .i64 most] 1 false

def OutR (o : Nat) (una sent most : Int) (S : List UInt8) (h : Hp) (F : List Nat) : Prop :=
  ∃ a n f G, h.get o = some (outRow una (.slc a n f) sent most) ∧ Own 1 a n (bRows S) h G ∧ F = o :: G ∧ o ∉ G

theorem OutR.rep (o : Nat) (una sent most : Int) (S : List UInt8) : Rep (OutR o una sent most S) where
  loc := fun h h' F hs ⟨a, n, f, G, h1, h2, h3, h4⟩ => by
    subst h3
    exact ⟨a, n, f, G, by rw [hs o (by simp)]; exact h1, (Own.rep 1 a n _).loc h h' G (fun j hj => hs j (by simp [hj])) h2, rfl, h4⟩
  dom := fun h F ⟨a, n, f, G, h1, h2, h3, h4⟩ j hj => by
    subst h3
    rcases List.mem_cons.1 hj with rfl | hj
    · exact ⟨_, h1, rfl⟩
    · exact (Own.rep 1 a n _).dom h G h2 j hj

theorem OutR.len {o : Nat} {una sent most : Int} {S : List UInt8} {h : Hp} {F : List Nat} (r : OutR o una sent most S h F) :
    ∃ a f, h.ld o 0 = some (.int .u32 una) ∧ h.ld o 1 = some (.slc a S.length f) ∧ h.ld o 2 = some (.int .i64 sent) ∧ h.ld o 3 = some (.int .i64 most) ∧ (a ≠ none ∨ S.length = 0) ∧ ∃ G, Own 1 a S.length (bRows S) h G ∧ F = o :: G ∧ o ∉ G := by
  obtain ⟨a, n, f, G, h1, h2, h3, h4⟩ := r
  have hn : n = S.length := by have := h2.1; simpa [bRows] using this.symm
  subst hn
  refine ⟨a, f, by rw [Hp.ld_of h1]; rfl, by rw [Hp.ld_of h1]; rfl, by rw [Hp.ld_of h1]; rfl, by rw [Hp.ld_of h1]; rfl, ?_, G, h2, h3, h4⟩
  cases a with
  | none => have := h2.2.2.1; right; simpa [bRows] using congrArg List.length this
  | some p => exact .inl (by simp)

/-- how far behind una -/
def far (una at' : Int) : Int := IntKind.u32.wrap (at' - una)

theorem far_bnd (una at' : Int) : 0 ≤ far una at' ∧ far una at' < 4294967296 := by
  have e : far una at' = (at' - una) % 4294967296 := by
    simp [far, IntKind.wrap, IntKind.bits, IntKind.signed]
  rw [e]
  exact ⟨Int.emod_nonneg _ (by decide), Int.emod_lt_of_pos _ (by decide)⟩

theorem place_spec {h : Hp} {F : List Nat} {o : Nat} {una sent most at' : Int} {S : List UInt8} (r : OutR o una sent most S h F) (hm : most ≠ 0) (hS : S.length < 9223372036854775808) :
    XCalls Try.prog 40 [.ptr (some (o, 0)), .int .u32 at'] h fun v h' => h' = h ∧ v = .tup (if far una at' ≤ S.length then [.int .i64 (far una at'), .bool true] else [.int .i64 0, .bool false]) := by
  obtain ⟨a, f, l0, l1, l2, l3, _⟩ := r.len
  have hf := far_bnd una at'
  apply x40
  unfold X40
  refine ⟨most, l3, ?_⟩
  have c0 : (most == 0) = false := by simp [hm]
  simp only [c0, cond_false]
  refine ⟨una, l0, a, _, f, l1, ?_⟩
  have e1 : IntKind.u64.wrap (↑S.length) = S.length := wrap_of (by simp [IntKind.min, IntKind.max, IntKind.signed, IntKind.bits]; omega)
  have e2 : IntKind.u64.wrap (IntKind.u32.wrap (at' - una)) = far una at' := wrap_of (by simp only [far] at hf; simp [IntKind.min, IntKind.max, IntKind.signed, IntKind.bits]; omega)
  have e3 : IntKind.i64.wrap (IntKind.u32.wrap (at' - una)) = far una at' := wrap_of (by simp only [far] at hf; simp [IntKind.min, IntKind.max, IntKind.signed, IntKind.bits]; omega)
  rw [e1, e2]
  by_cases hc : far una at' ≤ S.length
  · have : ltI (↑S.length) (far una at') = false := by rw [ltI_eq, decide_eq_false_iff_not]; omega
    simp only [this, cond_false, if_pos hc]
    refine ⟨una, l0, (by trivial), ?_⟩
    rw [e3]
  · have : ltI (↑S.length) (far una at') = true := by rw [ltI_eq, decide_eq_true_eq]; omega
    simp only [this, cond_true, if_neg hc]
    exact ⟨(by trivial), (by trivial)⟩

theorem una_spec {h : Hp} {F : List Nat} {o : Nat} {una sent most : Int} {S : List UInt8} (r : OutR o una sent most S h F) :
    XCalls Try.prog 18 [.ptr (some (o, 0))] h fun v h' => v = .int .u32 una ∧ h' = h := by
  obtain ⟨a, f, l0, l1, l2, l3, _⟩ := r.len
  apply x18
  exact ⟨una, l0, rfl, rfl⟩

theorem nxt_spec {h : Hp} {F : List Nat} {o : Nat} {una sent most : Int} {S : List UInt8} (r : OutR o una sent most S h F) :
    XCalls Try.prog 19 [.ptr (some (o, 0))] h fun v h' => v = .int .u32 (IntKind.u32.wrap (una + IntKind.u32.wrap sent)) ∧ h' = h := by
  obtain ⟨a, f, l0, l1, l2, l3, _⟩ := r.len
  apply x19
  exact ⟨una, l0, sent, l2, rfl, rfl⟩

theorem end_spec {h : Hp} {F : List Nat} {o : Nat} {una sent most : Int} {S : List UInt8} (r : OutR o una sent most S h F) :
    XCalls Try.prog 20 [.ptr (some (o, 0))] h fun v h' => v = .int .u32 (IntKind.u32.wrap (una + IntKind.u32.wrap S.length)) ∧ h' = h := by
  obtain ⟨a, f, l0, l1, l2, l3, _⟩ := r.len
  apply x20
  exact ⟨una, l0, a, _, f, l1, rfl, rfl⟩

theorem room_spec {h : Hp} {F : List Nat} {o : Nat} {una sent most : Int} {S : List UInt8} (r : OutR o una sent most S h F) (hm : (S.length : Int) ≤ most ∧ most ≤ 16384) :
    XCalls Try.prog 21 [.ptr (some (o, 0))] h fun v h' => v = .int .i64 (most - S.length) ∧ h' = h := by
  obtain ⟨a, f, l0, l1, l2, l3, _⟩ := r.len
  apply x21
  refine ⟨most, l3, a, _, f, l1, ?_⟩
  rw [wrap_of (by simp [IntKind.min, IntKind.max, IntKind.signed, IntKind.bits]; omega)]
  exact ⟨rfl, rfl⟩

theorem newOut_spec {h : Hp} {una most : Int} (hm : 1 ≤ most ∧ most ≤ 16384) :
    XCalls Try.prog 11 [.int .u32 una, .int .i64 most] h fun v h' => v = .tup [.ptr (some (h.next, 0)), .int .i64 0] ∧ OutR h.next una 0 most [] h' [h.next] ∧ Upd h h' [] [h.next] := by
  apply x11
  unfold X11
  have c1 : ltI most 1 = false := by rw [ltI_eq, decide_eq_false_iff_not]; omega
  have c2 : ltI 16384 most = false := by rw [ltI_eq, decide_eq_false_iff_not]; omega
  simp only [c1, c2, cond_false]
  rintro h1 rfl
  exact ⟨(by trivial), ⟨none, 0, true, [], Hp.get_alloc_self, Own.nil 1 _, rfl, by simp⟩, fun j hj _ => Hp.get_alloc_ne (by omega), fun j hj => by rw [List.mem_singleton] at hj; exact .inr (by omega), Nat.le_succ _⟩

theorem newOut_err {h : Hp} {una most : Int} (hm : most < 1 ∨ 16384 < most) :
    XCalls Try.prog 11 [.int .u32 una, .int .i64 most] h fun v h' => v = .tup [.ptr none, .int .i64 2] ∧ h' = h := by
  apply x11
  unfold X11
  cases c1 : ltI most 1 with
  | true => exact ⟨rfl, rfl⟩
  | false =>
    cases c2 : ltI 16384 most with
    | true => exact ⟨rfl, rfl⟩
    | false => rw [ltI_eq, decide_eq_false_iff_not] at c1 c2; omega
end Go.Vex
