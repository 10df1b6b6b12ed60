/- The heap: what is in behind a script; done. -/
import Derived.Test.YtlodgmmhaolmaaaDoorHpQ
import Derived.Test.YtlodgmmhaolmaaaDoorHpK
import Derived.Test.YtlodgmmhaolmaaaDoorOpR
set_option linter.unusedSimpArgs false
set_option linter.unusedVariables false
namespace Go.Proofs.YtlodgmmhaolmaaaDoor
open Go.RowKit
/-- one call's doing, on what is in -/
def stepIn (l : List Ent) (K : Int) (e : Ent) : List Ent :=
  match findE l e.2 with
  | none => if K = 0 then l ++ [e] else l
  | some i => if K = 1 then l.eraseIdx i else if K = 2 then l.set i (e.1, (atE l i).2) else l
def inF (kd : Nat → Int) (en : Nat → Ent) : Nat → List Ent
  | 0 => []
  | k + 1 => stepIn (inF kd en k) (kd k) (en k)
theorem findE_perm {L M : List Ent} (hp : L.Perm M) (s : List UInt8) : (findE L s = none ↔ findE M s = none) := by
  have key : ∀ {L M : List Ent}, L.Perm M → findE L s = none → findE M s = none := by
    intro L M hp h
    cases hM : findE M s with
    | none => rfl
    | some i =>
      obtain ⟨h1, h2⟩ := findE_some hM
      exact absurd h2 (findE_none h _ (hp.mem_iff.2 (atE_mem h1)))
  exact ⟨key hp, key hp.symm⟩
theorem same_ent {L M : List Ent} (hp : L.Perm M) (hN : NoTwice M) {s : List UInt8} {i j : Nat} (hi : findE L s = some i) (hj : findE M s = some j) : atE L i = atE M j := by
  obtain ⟨h1, h2⟩ := findE_some hi
  obtain ⟨h3, h4⟩ := findE_some hj
  have hm : atE L i ∈ M := hp.mem_iff.1 (atE_mem h1)
  obtain ⟨k, hk, e⟩ := List.getElem_of_mem hm
  have e' : atE M k = atE L i := by unfold atE; rw [List.getD_eq_getElem?_getD, List.getElem?_eq_getElem hk]; exact e
  have := noTwice_at hN hk h3 (by rw [e', h2, h4])
  rw [← e', this]
theorem erase_perm {L : List Ent} {i : Nat} (hi : i < L.length) : L.Perm (atE L i :: L.eraseIdx i) := by
  have h := Go.ChangeMaps.set_perm L i hi (atE L i)
  have e : L.set i (atE L i) = L := by
    unfold atE; rw [List.getD_eq_getElem?_getD, List.getElem?_eq_getElem hi]; exact List.set_getElem_self hi
  rwa [e] at h
theorem put_in {mo : Bool} {L l : List Ent} {e : Ent} (hp : L.Perm l) : (putH mo L e).1.Perm (l ++ [e]) :=
  (put_perm mo L e).trans ((hp.cons e).trans (List.perm_append_singleton e l).symm)
theorem take_in {mo : Bool} {L l : List Ent} {s : List UInt8} {i j : Nat} (hp : L.Perm l) (hN : NoTwice l) (hi : findE L s = some i) (hj : findE l s = some j) : (takeH mo L i).1.Perm (l.eraseIdx j) := by
  have h1 := take_perm mo L i (findE_some hi).1
  have h2 := erase_perm (findE_some hj).1
  rw [same_ent hp hN hi hj] at h1
  exact (List.perm_cons _).1 (h1.trans (hp.trans h2))
theorem turn_in {mo : Bool} {L l : List Ent} {s : List UInt8} {i j : Nat} {r : Int} (hp : L.Perm l) (hN : NoTwice l) (hi : findE L s = some i) (hj : findE l s = some j) : (turnH mo L i r).1.Perm (l.set j (r, (atE l j).2)) := by
  have hil := (findE_some hi).1
  have hjl := (findE_some hj).1
  have he := same_ent hp hN hi hj
  have h1 := erase_perm hil
  have h2 := erase_perm hjl
  rw [he] at h1
  have h3 : (L.eraseIdx i).Perm (l.eraseIdx j) := (List.perm_cons _).1 (h1.symm.trans (hp.trans h2))
  unfold turnH
  refine (mendH_perm mo _ _ (by simpa using hil)).trans ?_
  rw [he]
  exact (Go.ChangeMaps.set_perm _ _ hil _).trans ((h3.cons _).trans (Go.ChangeMaps.set_perm _ _ hjl _).symm)
/-- a heap behind k calls -/
structure DoneIn (w wr : World) (hb mb : Nat) (v : Value) (L : List Ent) (mo : Bool) (mv k : Nat) (l : List Ent) : Prop where
  h : HeapAt wr hb mb v L mo mv
  b : Below w.heap.size w wr
  f : ∀ x ∈ foot hb mb v, w.heap.size ≤ x
  len : L.length ≤ k
  ok : HeapOk mo L
  p : L.Perm l
theorem DoneIn.step {w wr w' : World} {hb mb : Nat} {v : Value} {L l : List Ent} {mo : Bool} {mv k : Nat} (h : DoneIn w wr hb mb v L mo mv k l) (hb' : Below wr.heap.size wr w') : DoneIn w w' hb mb v L mo mv k l :=
  ⟨h.h.below hb', h.b.trans (hb'.mono h.b.size), h.f, h.len, h.ok, h.p⟩
theorem DoneIn.more {w wr : World} {hb mb : Nat} {v : Value} {L l : List Ent} {mo : Bool} {mv k j : Nat} (h : DoneIn w wr hb mb v L mo mv k l) (hj : k ≤ j) : DoneIn w wr hb mb v L mo mv j l := ⟨h.h, h.b, h.f, Nat.le_trans h.len hj, h.ok, h.p⟩
theorem DoneIn.to {w wr w' : World} {hb mb : Nat} {v v' : Value} {L L' l l' : List Ent} {mo : Bool} {mv mv' k : Nat} (h : DoneIn w wr hb mb v L mo mv k l) (ht : HeapTo wr w' hb mb v v' L' mo mv') (hl : L'.length ≤ k + 1) (ho : HeapOk mo L') (hp : L'.Perm l') : DoneIn w w' hb mb v' L' mo mv' (k + 1) l' := by
  refine ⟨ht.h, h.b.trans (ht.t.below h.f h.b.size), fun x hx => ?_, hl, ho, hp⟩
  rcases foot_step ht.r x hx with hx | hx
  · exact h.f x hx
  · exact Nat.le_trans h.b.size hx
/-- what a change leaves of it -/
def DoneTo (w wr : World) (hb mb : Nat) (v : Value) (mo : Bool) (k : Nat) (l' : List Ent) (e : Ending) (w' : World) : Prop := ∃ x v' L' mv', e = .returned x ∧ DoneIn w w' hb mb v' L' mo mv' k l' ∧ Turned (foot hb mb v) wr w'
theorem put_done (w wr : World) (hb mb : Nat) (v : Value) (L l : List Ent) (mo : Bool) (mv k : Nat) (r : Int) (s : List UInt8) (h : DoneIn w wr hb mb v L mo mv k l) (hs : s.length ≤ 9223372036854775807) (hk : (k + 1) * 24 ≤ 140737488355328) :
    Calls Tryd.prog 9 #[.pointer (some ⟨hb, 0, none⟩), .agg #[.int .i64 r, strV s]] wr (DoneTo w wr hb mb v mo (k + 1) (stepIn l 0 (r, s))) := by
  have hl := h.len
  cases hf : findE L s with
  | some i =>
    have hst : stepIn l 0 (r, s) = l := by
      unfold stepIn
      cases hj : findE l s with
      | none => exact absurd ((findE_perm h.p s).2 hj) (by rw [hf]; simp)
      | some j => simp
    rw [hst]
    exact (put_known hb mb v L mo mv r s wr h.h hs i hf).mono fun e w' ⟨he, hb'⟩ => ⟨_, v, L, mv, he, (h.step hb').more (by omega), Turned.ofBelow hb'⟩
  | none =>
    have hst : stepIn l 0 (r, s) = l ++ [(r, s)] := by
      unfold stepIn
      rw [show findE l (r, s).2 = none from (findE_perm h.p s).1 hf]
      simp
    rw [hst]
    exact (put_new hb mb v L mo mv r s wr h.h hs hf (by omega)).mono fun e w' ⟨he, v', ht⟩ => ⟨_, v', _, _, he, h.to ht (by rw [putH_len]; omega) (put_ok h.ok _) (put_in h.p), ht.t⟩
theorem take_done (w wr : World) (hb mb : Nat) (v : Value) (L l : List Ent) (mo : Bool) (mv k : Nat) (r : Int) (s : List UInt8) (h : DoneIn w wr hb mb v L mo mv k l) (hs : s.length ≤ 9223372036854775807) (hk : (k + 1) * 24 ≤ 140737488355328) :
    Calls Tryd.prog 14 #[.pointer (some ⟨hb, 0, none⟩), strV s] wr (DoneTo w wr hb mb v mo (k + 1) (stepIn l 1 (r, s))) := by
  have hl := h.len
  cases hf : findE L s with
  | none =>
    have hst : stepIn l 1 (r, s) = l := by
      unfold stepIn
      rw [show findE l (r, s).2 = none from (findE_perm h.p s).1 hf]
      simp
    rw [hst]
    exact (take_none hb mb v L mo mv s wr h.h hs hf).mono fun e w' ⟨he, hb'⟩ => ⟨_, v, L, mv, he, (h.step hb').more (by omega), Turned.ofBelow hb'⟩
  | some i =>
    have hi := (findE_some hf).1
    obtain ⟨j, hj⟩ : ∃ j, findE l s = some j := by
      cases hj : findE l s with
      | none => exact absurd ((findE_perm h.p s).2 hj) (by rw [hf]; simp)
      | some j => exact ⟨j, rfl⟩
    have hst : stepIn l 1 (r, s) = l.eraseIdx j := by unfold stepIn; rw [show findE l (r, s).2 = some j from hj]; simp
    rw [hst]
    exact (take_some hb mb v L mo mv (L.length - 1) s wr h.h hs i hf (by omega) (by omega)).mono fun e w' ⟨he, v', ht⟩ => ⟨_, v', _, _, he, h.to ht (by rw [takeH_len]; omega) (take_ok h.ok i) (take_in h.p (h.h.two.perm h.p.symm) hf hj), ht.t⟩
theorem turn_done (w wr : World) (hb mb : Nat) (v : Value) (L l : List Ent) (mo : Bool) (mv k : Nat) (r : Int) (s : List UInt8) (h : DoneIn w wr hb mb v L mo mv k l) (hs : s.length ≤ 9223372036854775807) (hk : (k + 1) * 24 ≤ 140737488355328) :
    Calls Tryd.prog 27 #[.pointer (some ⟨hb, 0, none⟩), strV s, .int .i64 r] wr (DoneTo w wr hb mb v mo (k + 1) (stepIn l 2 (r, s))) := by
  have hl := h.len
  cases hf : findE L s with
  | none =>
    have hst : stepIn l 2 (r, s) = l := by
      unfold stepIn
      rw [show findE l (r, s).2 = none from (findE_perm h.p s).1 hf]
      simp
    rw [hst]
    exact (turn_none hb mb v L mo mv s r wr h.h hs hf).mono fun e w' ⟨he, hb'⟩ => ⟨_, v, L, mv, he, by subst hb'; exact h.more (by omega), by subst hb'; exact Turned.refl _ _⟩
  | some i =>
    have hi := (findE_some hf).1
    obtain ⟨j, hj⟩ : ∃ j, findE l s = some j := by
      cases hj : findE l s with
      | none => exact absurd ((findE_perm h.p s).2 hj) (by rw [hf]; simp)
      | some j => exact ⟨j, rfl⟩
    have hst : stepIn l 2 (r, s) = l.set j (r, (atE l j).2) := by unfold stepIn; rw [show findE l (r, s).2 = some j from hj]; simp
    rw [hst]
    exact (turn_some hb mb v L mo mv s r wr h.h hs i hf (by omega)).mono fun e w' ⟨he, ht⟩ => ⟨_, v, _, _, he, h.to ht (by rw [turnH_len]; omega) (turn_ok h.ok i r hi) (turn_in h.p (h.h.two.perm h.p.symm) hf hj), ht.t⟩
theorem step_no {l : List Ent} {K : Int} {e : Ent} (h0 : K ≠ 0) (h1 : K ≠ 1) (h2 : K ≠ 2) : stepIn l K e = l := by
  unfold stepIn
  split
  · rw [if_neg h0]
  · rw [if_neg h1, if_neg h2]
set_option maxHeartbeats 4000000 in
set_option maxRecDepth 100000 in
theorem done_any (mo : Bool) (A : Option Addr) (n cap : Nat) (kd : Nat → Int) (en : Nat → Ent) (x1 : Nat → Int) (x2 : Nat → Bool) (x5 : Nat → Option Addr × Nat × Nat) (w : World) (ho : OpRow w A n kd en x1 x2 x5) (hn : (n + 1) * 24 ≤ 140737488355328) :
    Calls Tryd.prog 7 #[.bool mo, .slice A n cap] w fun e w' => ∃ hb mb v L mv, e = .returned (.pointer (some ⟨hb, 0, none⟩)) ∧ DoneIn w w' hb mb v L mo mv n (inF kd en n) := by
  have HR : Bx _ := ⟨ho⟩
  have kn := new_heap mo w
  clear ho
  go_enter Tryd.func7, Tryd.ntmps7
  go_wp2_with fail
  refine kn.mono ?_
  rintro e w1 ⟨hb, mb, rfl, h1, hbl, hb1, hb2⟩
  have HM1 : Bx (DoneIn w w1 hb mb (.slice none 0 0) [] mo 0 0 (inF kd en 0)) := ⟨⟨h1, hbl, foot_nil hb1 hb2, Nat.le_refl _, nil_ok mo, List.Perm.refl _⟩⟩
  clear kn h1 hbl hb1 hb2
  go_wp2_with fail
  go_loopw [12] (fun i wr => ∃ k : Nat, i = .int .i64 k ∧ k ≤ n ∧ ∃ v L mv, Bx (DoneIn w wr hb mb v L mo mv k (inF kd en k))) (fun i _ => n - (intOf i).toNat)
  case atStart => exact ⟨0, rfl, by omega, _, _, _, HM1⟩
  case round =>
    obtain ⟨k, rfl, hk, v, L, mv, HI⟩ := hrel
    clear HM1
    by_cases hlt : k < n
    · obtain ⟨b, off, rfl, hrow⟩ := (HR.out.below HI.out.b).row (by omega)
      obtain ⟨a0, a1, a2, a3, a4, a5⟩ := hrow k hlt
      have hts := HR.out.txt k hlt
      have HST0 : Bx (inF kd en (k + 1) = stepIn (inF kd en k) (kd k) (en k)) := ⟨rfl⟩
      obtain ⟨K, hK⟩ : ∃ K, kd k = K := ⟨_, rfl⟩
      obtain ⟨r, hr⟩ : ∃ r, (en k).1 = r := ⟨_, rfl⟩
      obtain ⟨s, hs⟩ : ∃ s, (en k).2 = s := ⟨_, rfl⟩
      have HE : Bx (en k = (r, s)) := ⟨by rw [← hr, ← hs]⟩
      rw [HE.out] at HST0
      rw [hK] at a0 HST0
      rw [hr] at a3
      rw [hs] at a4 hts
      generalize x1 k = y1 at *
      generalize x2 k = y2 at *
      generalize x5 k = y5 at *
      obtain ⟨y5a, y5n, y5c⟩ := y5
      simp only at a5
      clear hrow hK hr hs
      go_upto_region 5 with (fail)
      change Code.wp _ _ _ _ (wr.alloc (.cells #[.int .i64 K, .int .i64 y1, .bool y2, .int .i64 r, strV s, .slice y5a y5n y5c] 48))
      have hbl := heap_alloc_new wr (.cells #[.int .i64 K, .int .i64 y1, .bool y2, .int .i64 r, strV s, .slice y5a y5n y5c] 48)
      have HI2 : Bx (DoneIn w (wr.alloc (.cells #[.int .i64 K, .int .i64 y1, .bool y2, .int .i64 r, strV s, .slice y5a y5n y5c] 48)) hb mb v L mo mv k (inF kd en k)) := ⟨HI.out.step (below1 _ _)⟩
      clear HI a0 a1 a2 a3 a4 a5
      generalize wr.alloc (.cells #[.int .i64 K, .int .i64 y1, .bool y2, .int .i64 r, strV s, .slice y5a y5n y5c] 48) = w2 at *
      obtain ⟨B, hB⟩ : ∃ B, wr.heap.size = B := ⟨_, rfl⟩
      rw [hB] at hbl
      simp only [hB]
      clear hB
      have q0 : w2.cell? ⟨B, 0, none⟩ = some (.int .i64 K) := cells_at hbl 0 _ rfl
      have q3 : w2.cell? ⟨B, 3, none⟩ = some (.int .i64 r) := cells_at hbl 3 _ rfl
      have q4 : w2.cell? ⟨B, 4, none⟩ = some (strV s) := cells_at hbl 4 _ rfl
      clear hbl
      by_cases k0 : K = 0
      · have d0 : (K == 0) = true := by simpa using k0
        have kc := put_done w w2 hb mb v L (inF kd en k) mo mv k r s HI2.out hts (by omega)
        have HST : Bx (inF kd en (k + 1) = stepIn (inF kd en k) 0 (r, s)) := ⟨by rw [HST0.out, k0]⟩
        clear k0 HST0
        go_upto_region 12 with (go_at_call 9; refine kc.mono ?_; rintro e w3 ⟨x, v', L', mv', rfl, h3, t3⟩; have H3 : Bx _ := ⟨h3⟩; clear kc h3 t3)
        go_wp2
        exact ⟨⟨k + 1, by rw [Int.natCast_succ], by omega, v', L', mv', by rw [HST.out]; exact H3⟩, by simp only [intOf]; omega⟩
      · have d0 : (K == 0) = false := by simpa using k0
        by_cases k1 : K = 1
        · have d1 : (K == 1) = true := by simpa using k1
          have kc := take_done w w2 hb mb v L (inF kd en k) mo mv k r s HI2.out hts (by omega)
          have HST : Bx (inF kd en (k + 1) = stepIn (inF kd en k) 1 (r, s)) := ⟨by rw [HST0.out, k1]⟩
          clear k0 k1 HST0
          go_upto_region 12 with (go_at_call 14; refine kc.mono ?_; rintro e w3 ⟨x, v', L', mv', rfl, h3, t3⟩; have H3 : Bx _ := ⟨h3⟩; clear kc h3 t3)
          go_wp2
          exact ⟨⟨k + 1, by rw [Int.natCast_succ], by omega, v', L', mv', by rw [HST.out]; exact H3⟩, by simp only [intOf]; omega⟩
        · have d1 : (K == 1) = false := by simpa using k1
          by_cases k2 : K = 2
          · have d2 : (K == 2) = true := by simpa using k2
            have kc := turn_done w w2 hb mb v L (inF kd en k) mo mv k r s HI2.out hts (by omega)
            have HST : Bx (inF kd en (k + 1) = stepIn (inF kd en k) 2 (r, s)) := ⟨by rw [HST0.out, k2]⟩
            clear k0 k1 k2 HST0
            go_upto_region 12 with (go_at_call 27; refine kc.mono ?_; rintro e w3 ⟨x, v', L', mv', rfl, h3, t3⟩; have H3 : Bx _ := ⟨h3⟩; clear kc h3 t3)
            go_wp2
            exact ⟨⟨k + 1, by rw [Int.natCast_succ], by omega, v', L', mv', by rw [HST.out]; exact H3⟩, by simp only [intOf]; omega⟩
          · have d2 : (K == 2) = false := by simpa using k2
            have HST : Bx (inF kd en (k + 1) = inF kd en k) := ⟨by rw [HST0.out]; exact step_no k0 k1 k2⟩
            clear k0 k1 k2 HST0
            go_wp2
            exact ⟨⟨k + 1, by rw [Int.natCast_succ], by omega, v, L, mv, ⟨by rw [HST.out]; exact HI2.out.more (by omega)⟩⟩, by simp only [intOf]; omega⟩
    · obtain rfl : k = n := by omega
      go_wp2
      go_ret
      exact ⟨hb, mb, v, L, mv, rfl, HI.out⟩
end Go.Proofs.YtlodgmmhaolmaaaDoor
