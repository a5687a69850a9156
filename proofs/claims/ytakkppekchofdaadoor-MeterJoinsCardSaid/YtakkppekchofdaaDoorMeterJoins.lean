/-
  MeterJoins of layer 04: whatever the three scripts, and whether the first meter is joined with itself, the law returns true and leaves the input as it was. No condition of its own; the card lists two tables of unicode/utf8, which no step reads.
-/
import Derived.Test.YtakkppekchofdaaDoorVexFF
import Derived.Test.YtakkppekchofdaaDoorTab04
import Derived.Test.YtakkppekchofdaaDoorMx04
import Derived.Test.YtakkppekchofdaaDoorRx04
import Derived.Test.YtakkppekchofdaaDoorGx04
import Derived.Test.YtakkppekchofdaaDoorXd04
import Derived.Test.YtakkppekchofdaaDoorPx04
import Derived.Test.YtakkppekchofdaaDoorRows
import Derived.Test.YtakkppekchofdaaDoorTie
import Derived.Test.YtakkppekchofdaaDoorCards
import Derived.WalkKit
import Derived.ProofKit
import Derived.OpenShut
import Derived.KernelRfl
import Derived.LaidMore
import Derived.Lay
import Derived.SevenTiedAt
import Derived.Stop.Joined
set_option linter.unusedVariables false
set_option linter.unusedSimpArgs false
namespace Go.Vex.MeterJoins
open Go.Proofs Go.Vex.Mtr

/-- two structures that may share -/
def Two (R1 R2 : Hp → List Nat → Prop) (h : Hp) (F : List Nat) : Prop := ∃ F1 F2, F = F1 ++ F2 ∧ R1 h F1 ∧ R2 h F2

theorem Two.rep {R1 R2 : Hp → List Nat → Prop} (r1 : Rep R1) (r2 : Rep R2) : Rep (Two R1 R2) where
  loc := fun h h' F hs ⟨F1, F2, e, a, b⟩ => by
    subst e
    exact ⟨F1, F2, rfl, r1.loc _ _ _ (fun j hj => hs j (List.mem_append_left _ hj)) a, r2.loc _ _ _ (fun j hj => hs j (List.mem_append_right _ hj)) b⟩
  dom := fun h F ⟨F1, F2, e, a, b⟩ j hj => by
    subst e
    rcases List.mem_append.1 hj with hj | hj
    · exact r1.dom _ _ a j hj
    · exact r2.dom _ _ b j hj

theorem Own.of {h : Hp} {q : Nat} {vs : List V} (hg : h.get q = some (.row vs 1 false)) : Own 1 (some (q, 0)) vs.length (vs.map fun v => [v]) h [q] := by
  refine ⟨by simp, fun r hr => ?_, rfl, [], rfl, ?_⟩
  · obtain ⟨v, _, rfl⟩ := List.mem_map.1 hr; rfl
  · rw [hg]
    have e : ∀ l : List V, (l.map fun v => [v]).flatten = l := fun l => by
      induction l with
      | nil => rfl
      | cons v l ih => rw [List.map_cons, List.flatten_cons, ih]; rfl
    rw [e]; rfl

theorem roUp {h h' : Hp} {a : Option (Nat × Nat)} {n sz : Nat} {rows : List (List V)} (k : ∀ j o, h.get j = some o → h'.get j = some o) (ro : RoSlc h a n rows sz) : RoSlc h' a n rows sz :=
  ⟨ro.1, fun h0 => let ⟨q, e, hg⟩ := ro.2 h0; ⟨q, e, k _ _ hg⟩⟩

theorem app1 {t : Nat} (htt : ∃ ti e ei, T t = some ti ∧ ti.d = .slc e ∧ T e = some ei ∧ ei.size = 1 ∧ ei.bytes ≤ 64 ∧ zok ei = true) {n : Nat} {a : Option (Nat × Nat)} {f : Bool} {rows : List (List V)} {g : Hp} {G : List Nat} {q : Nat} {v : V} (ho : Own 1 a n rows g G) (hw : g.wf) (hl : n ≤ 1000) (hq : g.get q = some (.row [v] 1 false)) :
    ∃ h', xapp T g t t (.slc a n f) (.slc (some (q, 0)) 1 true) = some (.slc (some (g.next, 0)) (n + 1) false, h') ∧ Own 1 (some (g.next, 0)) (n + 1) (rows ++ [[v]]) h' [g.next] ∧ Upd g h' G [g.next] ∧ h'.wf := by
  obtain ⟨ti, e, ei, ht, hd, he, hs, hb, hz⟩ := htt
  exact ho.app (f := f) (u := t) (y := .slc (some (q, 0)) 1 true) (news := [[v]]) hw ht hd ht (by intro k; rw [hd]; exact fun h => by cases h) he hs (by omega) hz
    (xnews_one hq rfl) (by simp) (by simp) (by simp; exact Nat.le_trans (Nat.mul_le_mul (show n + 1 ≤ 1001 by omega) hb) (by decide)) (by simp; omega)

theorem t35 : ∃ ti e ei, T 35 = some ti ∧ ti.d = .slc e ∧ T e = some ei ∧ ei.size = 1 ∧ ei.bytes ≤ 64 ∧ zok ei = true := ⟨_, _, _, rfl, rfl, rfl, rfl, by decide, rfl⟩
theorem t36 : ∃ ti e ei, T 36 = some ti ∧ ti.d = .slc e ∧ T e = some ei ∧ ei.size = 1 ∧ ei.bytes ≤ 64 ∧ zok ei = true := ⟨_, _, _, rfl, rfl, rfl, rfl, by decide, rfl⟩

/-- which ones are joined -/
def three {α : Type} (self : Bool) (x y z : α) : List α := if self = true then [x, y, z] else [x, y]

set_option maxHeartbeats 1000000 in
theorem law_calls {h : Hp} {a : Option (Nat × Nat)} {na : Nat} {fa : Bool} {rowsa : List (List V)} (ha : RoSlc h a na rowsa 3)
    (hra : ∀ r ∈ rowsa, shpBs stepZ r = true ∧ ∀ v ∈ r, v.fits) (hba : na * Tryd.prog.bytesOf 42 ≤ reachBytes)
    {b : Option (Nat × Nat)} {nb : Nat} {fb : Bool} {rowsb : List (List V)} (hb : RoSlc h b nb rowsb 3)
    (hrb : ∀ r ∈ rowsb, shpBs stepZ r = true ∧ ∀ v ∈ r, v.fits) (hbb : nb * Tryd.prog.bytesOf 42 ≤ reachBytes)
    {c : Option (Nat × Nat)} {nc : Nat} {fc : Bool} {rowsc : List (List V)} (hc : RoSlc h c nc rowsc 3)
    (hrc : ∀ r ∈ rowsc, shpBs stepZ r = true ∧ ∀ v ∈ r, v.fits) (hbc : nc * Tryd.prog.bytesOf 42 ≤ reachBytes) (self : Bool) :
    XCalls Tryd.prog 4 [.slc a na fa, .slc b nb fb, .slc c nc fc, .bool self] h fun v _ => v = .bool true := by
  obtain ⟨Sa, rfl⟩ := steps_of fun r hr => (hra r hr).1
  obtain ⟨Sb, rfl⟩ := steps_of fun r hr => (hrb r hr).1
  obtain ⟨Sc, rfl⟩ := steps_of fun r hr => (hrc r hr).1
  refine XCalls.ofWf fun hw => ?_
  refine XCalls.cps fun K hK => ?_
  have KT : ∀ h', K (.bool true) h' := fun h' => hK _ _ rfl
  have W : ∀ h', XCalls Tryd.prog 8 [] h' fun v h'' => ∃ b, v = .bool b ∧ K (.bool b) h'' := fun h' => works_spec fun _ => ⟨_, rfl, KT _⟩
  have hb42 : Tryd.prog.bytesOf 42 = 32 := by kernel_rfl
  have hrb' : reachBytes ≤ 9223372036854775806 := by decide
  rw [hb42] at hba hbb hbc
  have kk := Hp.keeps.refl h
  apply x4; unfold X4
  refine (heavy_spec ha kk (by omega)).mono ?_
  rintro _ h ⟨⟨b1, rfl, hb1⟩, rfl⟩
  refine ⟨_, rfl, ?_⟩
  cases b1 with
  | true => exact W _
  | false =>
  refine (heavy_spec hb kk (by omega)).mono ?_
  rintro _ h ⟨⟨b2, rfl, hb2⟩, rfl⟩
  refine ⟨_, rfl, ?_⟩
  cases b2 with
  | true => exact W _
  | false =>
  refine (heavy_spec hc kk (by omega)).mono ?_
  rintro _ h ⟨⟨b3, rfl, hb3⟩, rfl⟩
  refine ⟨_, rfl, ?_⟩
  cases b3 with
  | true => exact W _
  | false =>
  have ga : Mtr.Good (play [] Sa) := play_good _ Good.nil
  have gb : Mtr.Good (play [] Sb) := play_good _ Good.nil
  have gc : Mtr.Good (play [] Sc) := play_good _ Good.nil
  refine (filled_spec ha kk hw (hb1 rfl)).mono ?_
  rintro _ h1 ⟨m, r, Fm, Fr, rfl, m1, r1, q1, hFm, hFr, hmr⟩
  refine ⟨_, _, _, rfl, ?_⟩
  refine (filled_spec hb (kk.stay hw q1.same) q1.wf (hb2 rfl)).mono ?_
  rintro _ h2 ⟨n, s, Fn, Fs, rfl, n2, s2, q2, hFn, hFs, _⟩
  refine ⟨_, _, _, rfl, ?_⟩
  have q12 := q1.trans q2
  refine (filled_spec hc (kk.stay hw q12.same) q2.wf (hb3 rfl)).mono ?_
  rintro _ h3 ⟨o, t, Fo, Ft, rfl, o3, t3, q3, hFo, hFt, _⟩
  refine ⟨_, _, _, rfl, ?_⟩
  generalize play [] Sa = A at *
  generalize play [] Sb = B at *
  generalize play [] Sc = C at *
  have q23 := q2.trans q3
  -- all six stand
  have ltm : ∀ j ∈ Fm, j < h1.next := fun j hj => (MtR.rep _ _).lt q1.wf m1 hj
  have ltr : ∀ j ∈ Fr, j < h1.next := fun j hj => (RfR.rep _ _).lt q1.wf r1 hj
  have m3 : MtR m A h3 Fm := (MtR.rep _ _).loc _ _ _ (fun j hj => q23.same j (ltm j hj)) m1
  have r3 : RfR r A h3 Fr := (RfR.rep _ _).loc _ _ _ (fun j hj => q23.same j (ltr j hj)) r1
  have n3 : MtR n B h3 Fn := (MtR.rep _ _).loc _ _ _ (fun j hj => q3.same j ((MtR.rep _ _).lt q2.wf n2 hj)) n2
  have s3 : RfR s B h3 Fs := (RfR.rep _ _).loc _ _ _ (fun j hj => q3.same j ((RfR.rep _ _).lt q2.wf s2 hj)) s2
  have le2 := q2.le
  have le3 := q3.le
  have hsr : s ≠ r := fun e => by
    obtain ⟨_, _, _, hh⟩ := s2.row
    obtain ⟨_, _, _, hh'⟩ := r1.row
    have := hFs _ hh; have := ltr _ hh'; omega
  have htr : t ≠ r := fun e => by
    obtain ⟨_, _, _, hh⟩ := t3.row
    obtain ⟨_, _, _, hh'⟩ := r1.row
    have := hFt _ hh; have := ltr _ hh'; omega
  rintro h4 rfl h5 rfl
  have qa := Quiet.alloc q3.wf (.row [.ptr (some (n, 0)), .ptr (some (o, 0))] 1 false)
  have ga4 : (h3.alloc (.row [.ptr (some (n, 0)), .ptr (some (o, 0))] 1 false)).get h3.next = some (.row [.ptr (some (n, 0)), .ptr (some (o, 0))] 1 false) := Hp.get_alloc_self
  have na4 : (h3.alloc (.row [.ptr (some (n, 0)), .ptr (some (o, 0))] 1 false)).next = h3.next + 1 := rfl
  generalize h3.alloc (.row [.ptr (some (n, 0)), .ptr (some (o, 0))] 1 false) = h4 at *
  have qb := Quiet.alloc qa.wf (.row [.ptr (some (s, 0)), .ptr (some (t, 0))] 1 false)
  have gb5 : (h4.alloc (.row [.ptr (some (s, 0)), .ptr (some (t, 0))] 1 false)).get h4.next = some (.row [.ptr (some (s, 0)), .ptr (some (t, 0))] 1 false) := Hp.get_alloc_self
  have nb5 : (h4.alloc (.row [.ptr (some (s, 0)), .ptr (some (t, 0))] 1 false)).next = h4.next + 1 := rfl
  generalize h4.alloc (.row [.ptr (some (s, 0)), .ptr (some (t, 0))] 1 false) = h5 at *
  have ga5 : h5.get h3.next = some (.row [.ptr (some (n, 0)), .ptr (some (o, 0))] 1 false) := by rw [qb.same _ (by omega)]; exact ga4
  have own1 : Own 1 (some (h3.next, 0)) 2 [[.ptr (some (n, 0))], [.ptr (some (o, 0))]] h5 [h3.next] := Own.of ga5
  have own2 : Own 1 (some (h4.next, 0)) 2 [[.ptr (some (s, 0))], [.ptr (some (t, 0))]] h5 [h4.next] := Own.of gb5
  have q5 := qa.trans qb
  refine ⟨fun vs g' => match vs with
    | [.slc a7 n3 _, .slc a8 n4 _] => Quiet h3 g' ∧ ∃ G7 G8, Ow 1 a7 n3 (ptrs ((three self n o m).map fun q => some (q, 0))) g' G7 ∧ Ow 1 a8 n4 (ptrs ((three self s t r).map fun q => some (q, 0))) g' G8 ∧ (∀ j ∈ G7, h3.next ≤ j) ∧ (∀ j ∈ G8, h3.next ≤ j) ∧ n3 ≤ 3 ∧ n4 ≤ 3
    | _ => False, ?_, ?_⟩
  · cases self with
    | false =>
      exact ⟨rfl, q5, _, _, own1.ow, own2.ow, fun j hj => by rw [List.mem_singleton] at hj; omega, fun j hj => by rw [List.mem_singleton] at hj; omega, by omega, by omega⟩
    | true =>
      rintro h6 rfl
      have gc6 : (h5.alloc (.row [.ptr (some (m, 0))] 1 false)).get h5.next = some (.row [.ptr (some (m, 0))] 1 false) := Hp.get_alloc_self
      have qc := Quiet.alloc qb.wf (.row [.ptr (some (m, 0))] 1 false)
      have nc6 : (h5.alloc (.row [.ptr (some (m, 0))] 1 false)).next = h5.next + 1 := rfl
      generalize h5.alloc (.row [.ptr (some (m, 0))] 1 false) = h6 at *
      have own1' := (Own.rep _ _ _ _).loc h5 h6 _ (fun j hj => qc.same j ((Own.rep _ _ _ _).lt qb.wf own1 hj)) own1
      have own2' := (Own.rep _ _ _ _).loc h5 h6 _ (fun j hj => qc.same j ((Own.rep _ _ _ _).lt qb.wf own2 hj)) own2
      obtain ⟨h7, hx7, o7, u7, w7⟩ := app1 t35 (f := true) own1' qc.wf (by omega) gc6
      refine ⟨_, _, _, h7, hx7, ?_⟩
      have le7 := u7.le
      rintro h8 rfl
      have own2'' : Own 1 (some (h4.next, 0)) 2 [[.ptr (some (s, 0))], [.ptr (some (t, 0))]] h7 [h4.next] := (Own.rep _ _ _ _).loc h6 h7 _ (fun j hj => by rw [List.mem_singleton] at hj; exact u7.same j (by omega) (by rw [List.mem_singleton]; omega)) own2'
      have q7 : Quiet h3 h7 := ⟨fun j hj => by rw [u7.same j (by omega) (by rw [List.mem_singleton]; omega), qc.same j (by omega), q5.same j hj], by omega, w7⟩
      have gc8 : (h7.alloc (.row [.ptr (some (r, 0))] 1 false)).get h7.next = some (.row [.ptr (some (r, 0))] 1 false) := Hp.get_alloc_self
      have qd := Quiet.alloc w7 (.row [.ptr (some (r, 0))] 1 false)
      have nc8 : (h7.alloc (.row [.ptr (some (r, 0))] 1 false)).next = h7.next + 1 := rfl
      generalize h7.alloc (.row [.ptr (some (r, 0))] 1 false) = h8 at *
      have own3 := (Own.rep _ _ _ _).loc h7 h8 _ (fun j hj => qd.same j ((Own.rep _ _ _ _).lt w7 own2'' hj)) own2''
      have o8 := (Own.rep _ _ _ _).loc h7 h8 _ (fun j hj => qd.same j ((Own.rep _ _ _ _).lt w7 o7 hj)) o7
      obtain ⟨h9, hx9, o9, u9, w9⟩ := app1 t36 (f := true) own3 qd.wf (by omega) gc8
      have le9 := u9.le
      refine ⟨_, _, _, h9, hx9, rfl, ⟨fun j hj => by rw [u9.same j (by omega) (by rw [List.mem_singleton]; omega), qd.same j (by omega), q7.same j hj], by omega, w9⟩, [h6.next], [h8.next], ?_, o9.ow, fun j hj => by rw [List.mem_singleton] at hj; omega, fun j hj => by rw [List.mem_singleton] at hj; omega, by omega, by omega⟩
      exact ((Own.rep _ _ _ _).loc h8 h9 _ (fun j hj => by rw [List.mem_singleton] at hj; exact u9.same j (by omega) (by rw [List.mem_singleton]; omega)) o8).ow
  · clear own1 own2 ga5 gb5 ga4 q5 qa qb na4 nb5 h4 h5
    rintro bs a7 n7 f7 a8 n8 f8 h6 ⟨q6, G7, G8, ow7, ow8, hG7, hG8, hn7, hn8⟩
    have lt3 : ∀ {R : Hp → List Nat → Prop} (hR : Rep R) {F : List Nat}, R h3 F → R h6 F := fun {R} hR {F} hr => hR.stay q3.wf hr q6.same
    have m6 := lt3 (MtR.rep _ _) m3
    have r6 := lt3 (RfR.rep _ _) r3
    have n6 := lt3 (MtR.rep _ _) n3
    have s6 := lt3 (RfR.rep _ _) s3
    have o6 := lt3 (MtR.rep _ _) o3
    have t6 := lt3 (RfR.rep _ _) t3
    -- the rest
    let RestR : Hp → List Nat → Prop := Two (MtR n B) (Two (RfR s B) (Two (MtR o C) (Two (RfR t C) (Ow 1 a8 n8 (ptrs ((three self s t r).map fun q => some (q, 0)))))))
    have hRep : Rep RestR := Two.rep (MtR.rep _ _) (Two.rep (RfR.rep _ _) (Two.rep (MtR.rep _ _) (Two.rep (RfR.rep _ _) (Ow.rep _ _ _ _))))
    obtain ⟨H, hH⟩ : ∃ H, H = Fn ++ (Fs ++ (Fo ++ (Ft ++ G8))) := ⟨_, rfl⟩
    have rest6 : RestR h6 H := ⟨Fn, _, hH, n6, Fs, _, rfl, s6, Fo, _, rfl, o6, Ft, G8, rfl, t6, ow8⟩
    have dH : ∀ j ∈ H, h1.next ≤ j := fun j hj => by
      rw [hH] at hj
      simp only [List.mem_append] at hj
      rcases hj with hj | hj | hj | hj | hj
      · exact hFn j hj
      · exact hFs j hj
      · have := hFo j hj; omega
      · have := hFt j hj; omega
      · have := hG8 j hj; omega
    have dm : ∀ j ∈ Fm, j ∉ H := fun j hj hh => by have := ltm j hj; have := dH j hh; omega
    have dr : ∀ j ∈ Fr, j ∉ H := fun j hj hh => by have := ltr j hj; have := dH j hh; omega
    have hjoin := join_spec q6.wf m6 ga (Rs := three self B C A) (f := f7) ow7 (by omega) (by cases self <;> rfl) (by
      intro i q Q hq hQ
      cases self with
      | false =>
        match i, hq, hQ with
        | 0, hq, hQ => cases hq; cases hQ; exact ⟨gb, Fn, n6⟩
        | 1, hq, hQ => cases hq; cases hQ; exact ⟨gc, Fo, o6⟩
        | i + 2, hq, hQ => simp [three] at hq
      | true =>
        match i, hq, hQ with
        | 0, hq, hQ => cases hq; cases hQ; exact ⟨gb, Fn, n6⟩
        | 1, hq, hQ => cases hq; cases hQ; exact ⟨gc, Fo, o6⟩
        | 2, hq, hQ => cases hq; cases hQ; exact ⟨ga, Fm, m6⟩
        | i + 3, hq, hQ => simp [three] at hq)
    have gJ : Mtr.Good (joinR A (three self B C A)).2 := joinR_good ga fun Q hQ => by
      cases self with
      | false => simp [three] at hQ; rcases hQ with rfl | rfl <;> assumption
      | true => simp [three] at hQ; rcases hQ with rfl | rfl | rfl <;> assumption
    refine hjoin.mono ?_
    rintro _ h7 ⟨Fm', rfl, m7, u7, w7⟩
    refine ⟨_, rfl, ?_⟩
    obtain ⟨r7, dmr⟩ := u7.frame (RfR.rep _ _) q6.wf r6 hmr
    obtain ⟨rest7, dmH⟩ := u7.frame hRep q6.wf rest6 dm
    have ow8' : Ow 1 a8 n8 (ptrs ((three self s t r).map fun q => some (q, 0))) h7 G8 ∧ RfR s B h7 Fs ∧ RfR t C h7 Ft := by
      have le6 := u7.le
      have st : ∀ {R : Hp → List Nat → Prop} (hR : Rep R) {F : List Nat}, R h6 F → (∀ j ∈ F, j ∈ H) → R h7 F := fun {R} hR {F} hr hF => hR.loc _ _ _ (fun j hj => u7.same j (hR.lt q6.wf hr hj) (fun hh => dm j hh (hF j hj))) hr
      exact ⟨st (Ow.rep _ _ _ _) ow8 fun j hj => by rw [hH]; simp [hj], st (RfR.rep _ _) s6 fun j hj => by rw [hH]; simp [hj], st (RfR.rep _ _) t6 fun j hj => by rw [hH]; simp [hj]⟩
    obtain ⟨ow8', s7, t7⟩ := ow8'
    have hrjoin := rjoin_spec w7 r7 ga (Rs := three self B C A) (f := f8) ow8' (by omega) (by cases self <;> rfl) (by
      intro i q Q hq hQ
      cases self with
      | false =>
        match i, hq, hQ with
        | 0, hq, hQ => cases hq; cases hQ; exact ⟨gb, fun e => absurd e hsr, Fs, s7⟩
        | 1, hq, hQ => cases hq; cases hQ; exact ⟨gc, fun e => absurd e htr, Ft, t7⟩
        | i + 2, hq, hQ => simp [three] at hq
      | true =>
        match i, hq, hQ with
        | 0, hq, hQ => cases hq; cases hQ; exact ⟨gb, fun e => absurd e hsr, Fs, s7⟩
        | 1, hq, hQ => cases hq; cases hQ; exact ⟨gc, fun e => absurd e htr, Ft, t7⟩
        | 2, hq, hQ => cases hq; cases hQ; exact ⟨ga, fun _ => rfl, Fr, r7⟩
        | i + 3, hq, hQ => simp [three] at hq)
    refine hrjoin.mono ?_
    rintro _ h8 ⟨Fr', rfl, r8, u8, w8⟩
    refine ⟨_, rfl, ?_⟩
    obtain ⟨m8, _⟩ := u8.frame (MtR.rep _ _) w7 m7 (fun j hj hh => dmr j hh hj)
    obtain ⟨rest8, _⟩ := u8.frame hRep w7 rest7 dr
    generalize joinR A (three self B C A) = J at *
    have hcode : (J.1 == J.1) = true := by simp
    rw [hcode]
    obtain ⟨F1, F2, _, n8', F3, F4, _, s8, F5, F6, _, o8, F7, F8, _, t8, _⟩ := rest8
    refine (alike_spec w8 m8 r8 gJ).mono ?_
    rintro _ h9 ⟨rfl, q9⟩
    refine ⟨_, rfl, ?_⟩
    have st : ∀ {h h' : Hp} {R : Hp → List Nat → Prop} {F : List Nat}, Rep R → h.wf → Quiet h h' → R h F → R h' F := fun hR hw q hr => hR.stay hw hr q.same
    refine (alike_spec q9.wf (st (MtR.rep _ _) w8 q9 n8') (st (RfR.rep _ _) w8 q9 s8) gb).mono ?_
    rintro _ h10 ⟨rfl, q10⟩
    refine ⟨_, rfl, ?_⟩
    have q910 := q9.trans q10
    refine (alike_spec q10.wf (st (MtR.rep _ _) w8 q910 o8) (st (RfR.rep _ _) w8 q910 t8) gc).mono ?_
    rintro _ h11 ⟨rfl, q11⟩
    refine ⟨_, rfl, ?_⟩
    have q911 := q910.trans q11
    rintro h12 rfl
    have q12 := q911.trans (Quiet.alloc q11.wf (.row [.ptr (some (n, 0)), .ptr none] 1 false))
    have g12 : (h11.alloc (.row [.ptr (some (n, 0)), .ptr none] 1 false)).get h11.next = some (.row [.ptr (some (n, 0)), .ptr none] 1 false) := Hp.get_alloc_self
    generalize h11.alloc (.row [.ptr (some (n, 0)), .ptr none] 1 false) = h12 at *
    have own12 : Own 1 (some (h11.next, 0)) 2 (ptrs [some (n, 0), none]) h12 [h11.next] := Own.of g12
    have m12 := st (MtR.rep _ _) w8 q12 m8
    refine (join_none m12 own12.ow (by omega) rfl).mono ?_
    rintro _ h12 ⟨rfl, rfl⟩
    refine ⟨_, rfl, ?_⟩
    refine (alike_spec q12.wf m12 (st (RfR.rep _ _) w8 q12 r8) gJ).mono ?_
    rintro _ h13 ⟨rfl, q13⟩
    refine ⟨_, rfl, ?_⟩
    exact W _
end Go.Vex.MeterJoins

namespace Go.Proofs.YtakkppekchofdaaDoor.meterJoins
open Go.ChangeShapes Go.WideShapes Go.ChangeAt Go.RowKit Go.Vex Go.Vex.MeterJoins
open Go.ChangeMaps (open_string shut_string)

theorem own : ownKnob Tryd.prog.godebug = none := by kernel_rfl

set_option maxRecDepth 100000 in
theorem lifted (os : Os) (started : os.Started) (H : Type) (enc : TypeId × Value → H) :
    ReturnsInHanded {} Tryd.checked os 4 .any (fun w args => (Rows.meterJoinsSpec.pre enc Tryd.prog Tryd.f4 Rows.meterJoinsRow.domain false w args ∧ laidMetH Tryd.prog Rows.meterJoinsRow.laid w) ∧ sizedMet enc Tryd.prog Tryd.f4 (OpenSpec.ofChange Rows.meterJoinsSpec) false w args)
      (Rows.meterJoinsSpec.post enc Tryd.prog Tryd.f4 false true false false) := by
  refine returnsInHanded_of_change_and (C := Tryd.checked) (X := fun w _ => laidMetH Tryd.prog Rows.meterJoinsRow.laid w) (fun _ _ _ hh h => h.of_heap hh) own started (by kernel_rfl) Tryd.func4
    (ChangeSpec.witness_shaped (enc := enc) (C := Tryd.checked) (os := os) (X := fun w _ => laidMetH Tryd.prog Rows.meterJoinsRow.laid w) false (World.laidAll Tryd.prog os Rows.meterJoinsRow.laid) #[.slice none 0 0, .slice none 0 0, .slice none 0 0, .bool false] 8 (World.laidAll_os _ _ _)
      (World.shaped_of_ZipB (by kernel_rfl) (by kernel_rfl)) (by kernel_rfl) (by kernel_rfl) (by kernel_rfl)
      (by rw [MakeChecks.laidMetH_plain _ _ _ (by kernel_rfl)]; exact laidMet_laidAll _ (by kernel_rfl) (by kernel_rfl))) ?_
  intro W base args ds gs before hval0 hW hcnd hsz _ _
  have hval : ∀ (j : Nat) t v, Tryd.f4.params[j]? = some t → args[j]? = some v → Value.okWide Tryd.prog W .any base t v := hval0
  have hW' := hW
  obtain ⟨p, q, hA0, hV, rfl, hfz, hnd⟩ := hW
  have hA : DataW.TrodAll enc Tryd.prog W 0 (fun _ => true) true Tryd.f4.params.toList args.toList ds p := hA0
  rw [Tryd.params4] at hA hval hsz
  obtain ⟨v0, vs0, d0, ds0, p0, q0, hargs, rfl, rfl, h0, r0⟩ := trodAll_cons hA
  obtain ⟨v1, vs1, d1, ds1, p1, q1, rfl, rfl, rfl, h1, r1⟩ := trodAll_cons r0
  obtain ⟨v2, vs2, d2, ds2, p2, q2, rfl, rfl, rfl, h2, r2⟩ := trodAll_cons r1
  obtain ⟨v3, vs3, d3, ds3, p3, q3, rfl, rfl, rfl, h3, r3⟩ := trodAll_cons r2
  obtain ⟨rfl, rfl, rfl⟩ := trodAll_nil r3
  obtain rfl : args = #[v0, v1, v2, v3] := by cases args; simp_all
  obtain ⟨rfl, rfl⟩ := trodVars_none hV
  obtain ⟨ρ0, hp0, b0, n0, f0, rows0, s0, x0, l0, k0, vr0, ro0, sh0, z0⟩ := arg_slice tok (T := Vex.T) (t := 22) (e := 42) (d := 4) (zs := Go.Vex.Mtr.stepZ) rfl rfl rfl rfl rfl (by decide) (hval 0 22 v0 rfl rfl) h0 (fun m hm => hW'.lt m (by simp [hm])) (fun m hm => by simpa using List.all_eq_true.1 hsz m (DataW.weights_mem_each (j := 0) (t := 22) rfl rfl m hm)) (Sat.none W fun _ => ⟨0, 0, 0, 0⟩)
  obtain ⟨ρ1, hp1, b1, n1, f1, rows1, s1, x1, l1, k1, vr1, ro1, sh1, z1⟩ := arg_slice tok (T := Vex.T) (t := 22) (e := 42) (d := 4) (zs := Go.Vex.Mtr.stepZ) rfl rfl rfl rfl rfl (by decide) (hval 1 22 v1 rfl rfl) h1 (fun m hm => hW'.lt m (by simp [hm])) (fun m hm => by simpa using List.all_eq_true.1 hsz m (DataW.weights_mem_each (j := 1) (t := 22) rfl rfl m hm)) s0
  obtain ⟨ρ2, hp2, b2, n2, f2, rows2, s2, x2, l2, k2, vr2, ro2, sh2, z2⟩ := arg_slice tok (T := Vex.T) (t := 22) (e := 42) (d := 4) (zs := Go.Vex.Mtr.stepZ) rfl rfl rfl rfl rfl (by decide) (hval 2 22 v2 rfl rfl) h2 (fun m hm => hW'.lt m (by simp [hm])) (fun m hm => by simpa using List.all_eq_true.1 hsz m (DataW.weights_mem_each (j := 2) (t := 22) rfl rfl m hm)) s1
  obtain ⟨a3, rfl, rfl, rfl⟩ := open_bool Tryd.underlying4 (hval 3 4 v3 rfl rfl) h3
  have vr0 := vr0.ext l1 x1
  have ro0 := roUp k1 ro0
  have vr0 := vr0.ext l2 x2
  have ro0 := roUp k2 ro0
  have vr1 := vr1.ext l2 x2
  have ro1 := roUp k2 ro1
  refine (XCalls.true' s2 (vs := [.slc b0 n0 f0, .slc b1 n1 f1, .slc b2 n2 f2, .bool a3]) ⟨_, _, rfl, vr0, ⟨_, _, rfl, vr1, ⟨_, _, rfl, vr2, ⟨_, _, rfl, rfl, rfl⟩⟩⟩⟩ (law_calls ro0 sh0 z0 ro1 sh1 z1 ro2 sh2 z2 a3)).mono fun e W' ⟨he, hb⟩ => ?_
  subst he
  exact ⟨_, rfl, post_true (by kernel_rfl) hW' hb rfl (fun gs hg => by subst hg; rfl) (tb := 4) rfl Tryd.underlying4 (by decide +kernel)⟩

theorem over : Rows.meterJoinsRow.holds Tryd.pinned (OpenSpec.ofChange Rows.meterJoinsSpec) :=
  OpenClaim.holds_of_wide 4 Tryd.f4 rfl rfl rfl rfl rfl rfl rfl ⟨rfl, rfl, rfl, rfl, rfl⟩ rfl rfl rfl rfl rfl (by kernel_rfl) Tryd.func4 (by kernel_rfl)
    (of_decide_eq_true (by kernel_rfl)) (by unfold Func.isWrapper; first | (rw [if_pos (by decide +kernel)]; kernel_rfl) | (rw [if_neg (by decide +kernel)]; exact ⟨rfl, rfl⟩))
    (fun os started H enc _ => lifted os started H enc)

theorem proved : Rows.MeterJoinsCardSaid :=
  Claim7.holds_tied_plain_at .later [] [.data, .pinned] true (true, "6f0890050433e3409460d9e1357a35ec318fe23a11d76ee342353e76d92dff2d") true over (fun _ h => by cases h) (by kernel_rfl) (fun _ h => by cases h) meterJoins_row_tie rfl ⟨rfl, rfl⟩ (by kernel_rfl) rfl
    (fun f fn hf hfn => by
      obtain rfl : f = 4 := Option.some.inj ((show Tryd.prog.funcNamed "stevedore/stevedorelaw04.MeterJoins" = some 4 by kernel_rfl).symm.trans hf) |>.symm
      obtain rfl : fn = Tryd.f4 := (Option.some.inj (Tryd.func4.symm.trans hfn)).symm
      exact ⟨by kernel_rfl, fun j t ht => by
        rw [Tryd.params4] at ht
        have hm : t ∈ [22, 22, 22, 4] := by simpa using Array.mem_of_getElem? ht
        have hall : ([22, 22, 22, 4].all fun u => !Tryd.prog.wantsStandIn u) = true := by kernel_rfl
        exact (show Tryd.prog.wantsStandIn t = false by simpa using List.all_eq_true.1 hall t hm)⟩)
    (by kernel_rfl)
#print axioms proved
end Go.Proofs.YtakkppekchofdaaDoor.meterJoins
