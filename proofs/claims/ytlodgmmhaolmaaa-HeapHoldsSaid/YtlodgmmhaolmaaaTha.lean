/- Two heaps, of the least and of the greatest, side by side. -/
import Derived.Test.YtlodgmmhaolmaaaHpU
import Derived.Test.YtlodgmmhaolmaaaHpT
set_option linter.unusedSimpArgs false
set_option linter.unusedVariables false
namespace Go.Proofs.Ytlodgmmhaolmaaa
open Go.RowKit
/-- two heaps that lie apart, of what is in them -/
structure Two (w wr : World) (mo mp : Bool) (ha ma hb mb ka kb : Nat) (la lb : List Ent) : Prop where
  ex : ∃ va LA mva vb LB mvb, DoneIn w wr ha ma va LA mo mva ka la ∧ DoneIn w wr hb mb vb LB mp mvb kb lb ∧ ∀ x ∈ foot ha ma va, x ∉ foot hb mb vb
theorem Two.swap {w wr : World} {mo mp : Bool} {ha ma hb mb ka kb : Nat} {la lb : List Ent} (h : Two w wr mo mp ha ma hb mb ka kb la lb) : Two w wr mp mo hb mb ha ma kb ka lb la := by
  obtain ⟨va, LA, mva, vb, LB, mvb, h1, h2, h3⟩ := h
  exact ⟨vb, LB, mvb, va, LA, mva, h2, h1, fun x hx hy => h3 x hy hx⟩
theorem Two.step {w wr w' : World} {mo mp : Bool} {ha ma hb mb ka kb : Nat} {la lb : List Ent} (h : Two w wr mo mp ha ma hb mb ka kb la lb) (hb' : Below wr.heap.size wr w') : Two w w' mo mp ha ma hb mb ka kb la lb := by
  obtain ⟨va, LA, mva, vb, LB, mvb, h1, h2, h3⟩ := h
  exact ⟨va, LA, mva, vb, LB, mvb, h1.step hb', h2.step hb', h3⟩
theorem Two.b {w wr : World} {mo mp : Bool} {ha ma hb mb ka kb : Nat} {la lb : List Ent} (h : Two w wr mo mp ha ma hb mb ka kb la lb) : Below w.heap.size w wr := by
  obtain ⟨va, LA, mva, vb, LB, mvb, h1, h2, h3⟩ := h
  exact h1.b
theorem Two.more {w wr : World} {mo mp : Bool} {ha ma hb mb ka kb ka' kb' : Nat} {la lb : List Ent} (h : Two w wr mo mp ha ma hb mb ka kb la lb) (h1 : ka ≤ ka') (h2 : kb ≤ kb') : Two w wr mo mp ha ma hb mb ka' kb' la lb := by
  obtain ⟨va, LA, mva, vb, LB, mvb, a, b, c⟩ := h
  exact ⟨va, LA, mva, vb, LB, mvb, a.more h1, b.more h2, c⟩
/-- one of the two changes -/
theorem two_to {w wr w' : World} {mo mp : Bool} {ha ma hb mb ka kb k' : Nat} {la lb l' : List Ent} {va vb v' : Value} {LA LB L' : List Ent} {mva mvb mv' : Nat} (h1 : DoneIn w wr ha ma va LA mo mva ka la) (h2 : DoneIn w wr hb mb vb LB mp mvb kb lb) (h3 : ∀ x ∈ foot ha ma va, x ∉ foot hb mb vb)
    (ht : HeapTo wr w' ha ma va v' L' mo mv') (hl : L'.length ≤ k') (ho : HeapOk mo L') (hp : L'.Perm l') : Two w w' mo mp ha ma hb mb k' kb l' lb := by
  have hbw : Below w.heap.size w w' := h1.b.trans (ht.t.below h1.f h1.b.size)
  refine ⟨v', L', mv', vb, LB, mvb, ⟨ht.h, hbw, fun x hx => ?_, hl, ho, hp⟩, ⟨h2.h.kept ht.t h3, hbw, h2.f, h2.len, h2.ok, h2.p⟩, fun x hx hy => ?_⟩
  · rcases foot_step ht.r x hx with hx | hx
    · exact h1.f x hx
    · exact Nat.le_trans h1.b.size hx
  · rcases foot_step ht.r x hx with hx | hx
    · exact h3 x hx hy
    · exact absurd (h2.h.footLt x hy) (by omega)
/-- what Put tells -/
def putX (l : List Ent) (s : List UInt8) : Value := if (findE l s).isSome then .iface 91 (.int .i64 5) else .nilIface
theorem two_put {w wr : World} {mo mp : Bool} {ha ma hb mb ka kb : Nat} {la lb : List Ent} (r : Int) (s : List UInt8) (h : Two w wr mo mp ha ma hb mb ka kb la lb) (hs : s.length ≤ 9223372036854775807) (hk : (ka + 1) * 24 ≤ 140737488355328) :
    Calls Try.prog 9 #[.pointer (some ⟨ha, 0, none⟩), .agg #[.int .i64 r, strV s]] wr fun e w' => e = .returned (putX la s) ∧ Two w w' mo mp ha ma hb mb (ka + 1) kb (stepIn la 0 (r, s)) lb := by
  have h0 := h
  obtain ⟨va, LA, mva, vb, LB, mvb, h1, h2, h3⟩ := h
  have hl := h1.len
  cases hf : findE LA s with
  | some i =>
    obtain ⟨j, hj⟩ : ∃ j, findE la s = some j := by
      cases hj : findE la s with
      | none => exact absurd ((findE_perm h1.p s).2 hj) (by rw [hf]; simp)
      | some j => exact ⟨j, rfl⟩
    have hst : stepIn la 0 (r, s) = la := by unfold stepIn; rw [show findE la (r, s).2 = some j from hj]; simp
    rw [hst]
    exact (put_known ha ma va LA mo mva r s wr h1.h hs i hf).mono fun e w' ⟨he, hb'⟩ => ⟨by rw [he]; unfold putX; rw [hj]; rfl, (h0.step hb').more (by omega) (Nat.le_refl _)⟩
  | none =>
    have hj := (findE_perm h1.p s).1 hf
    have hst : stepIn la 0 (r, s) = la ++ [(r, s)] := by unfold stepIn; rw [show findE la (r, s).2 = none from hj]; simp
    rw [hst]
    exact (put_new ha ma va LA mo mva r s wr h1.h hs hf (by omega)).mono fun e w' ⟨he, v', ht⟩ => ⟨by rw [he]; unfold putX; rw [hj]; rfl, two_to h1 h2 h3 ht (by rw [putH_len]; omega) (put_ok h1.ok _) (put_in h1.p)⟩
theorem two_take {w wr : World} {mo mp : Bool} {ha ma hb mb ka kb : Nat} {la lb : List Ent} (s : List UInt8) (h : Two w wr mo mp ha ma hb mb ka kb la lb) (hs : s.length ≤ 9223372036854775807) (hk : (ka + 1) * 24 ≤ 140737488355328) :
    Calls Try.prog 10 #[.pointer (some ⟨ha, 0, none⟩), strV s] wr fun e w' => (∃ x, e = .returned x) ∧ Two w w' mo mp ha ma hb mb ka kb (stepIn la 1 (0, s)) lb := by
  have h0 := h
  obtain ⟨va, LA, mva, vb, LB, mvb, h1, h2, h3⟩ := h
  have hl := h1.len
  cases hf : findE LA s with
  | none =>
    have hst : stepIn la 1 (0, s) = la := by unfold stepIn; rw [show findE la (0, s).2 = none from (findE_perm h1.p s).1 hf]; simp
    rw [hst]
    exact (take_none ha ma va LA mo mva s wr h1.h hs hf).mono fun e w' ⟨he, hb'⟩ => ⟨⟨_, he⟩, h0.step hb'⟩
  | some i =>
    have hi := (findE_some hf).1
    obtain ⟨j, hj⟩ : ∃ j, findE la s = some j := by
      cases hj : findE la s with
      | none => exact absurd ((findE_perm h1.p s).2 hj) (by rw [hf]; simp)
      | some j => exact ⟨j, rfl⟩
    have hst : stepIn la 1 (0, s) = la.eraseIdx j := by unfold stepIn; rw [show findE la (0, s).2 = some j from hj]; simp
    rw [hst]
    exact (take_some ha ma va LA mo mva (LA.length - 1) s wr h1.h hs i hf (by omega) (by omega)).mono fun e w' ⟨he, v', ht⟩ => ⟨⟨_, he⟩, two_to h1 h2 h3 ht (by rw [takeH_len]; omega) (take_ok h1.ok i) (take_in h1.p (h1.h.two.perm h1.p.symm) hf hj)⟩
theorem Two.two {w wr : World} {mo mp : Bool} {ha ma hb mb ka kb : Nat} {la lb : List Ent} (h : Two w wr mo mp ha ma hb mb ka kb la lb) : NoTwice la ∧ NoTwice lb := by
  obtain ⟨va, LA, mva, vb, LB, mvb, h1, h2, h3⟩ := h
  exact ⟨h1.h.two.perm h1.p.symm, h2.h.two.perm h2.p.symm⟩
/-- a name taken: all others stay -/
theorem mem_taken {l : List Ent} {s : List UInt8} (hN : NoTwice l) (e : Ent) : e ∈ stepIn l 1 (0, s) ↔ e ∈ l ∧ e.2 ≠ s := by
  unfold stepIn
  cases hf : findE l s with
  | none =>
    simp only [show ¬ ((1 : Int) = 0) by decide, if_false]
    exact ⟨fun h => ⟨h, findE_none hf e h⟩, fun h => h.1⟩
  | some i =>
    simp only [if_true]
    obtain ⟨h1, h2⟩ := findE_some hf
    have hp := erase_perm h1
    have hN' : NoTwice (atE l i :: l.eraseIdx i) := hN.perm hp.symm
    obtain ⟨h3, _⟩ := List.pairwise_cons.1 hN'
    constructor
    · intro he
      exact ⟨hp.mem_iff.2 (List.mem_cons_of_mem _ he), fun e2 => h3 e he (by rw [h2, e2])⟩
    · rintro ⟨he, hne⟩
      rcases List.mem_cons.1 (hp.mem_iff.1 he) with h | h
      · exact absurd (by rw [h, h2]) hne
      · exact h
/-- what is left of l without the names of L2 at places of P -/
structure Rem (l : List Ent) (P : Nat → Prop) (n : Nat) (L2 la : List Ent) : Prop where
  m : ∀ e, e ∈ la ↔ e ∈ l ∧ ∀ j, P j → j < n → e.2 ≠ (atE L2 j).2
theorem Rem.step {l : List Ent} {P Q : Nat → Prop} {n : Nat} {L2 la : List Ent} {k : Nat} (h : Rem l P n L2 la) (hN : NoTwice la) (hk : k < n) (hQ : ∀ j, Q j ↔ P j ∨ j = k) : Rem l Q n L2 (stepIn la 1 (0, (atE L2 k).2)) := ⟨fun e => by
  rw [mem_taken hN, h.m]
  constructor
  · rintro ⟨⟨h1, h2⟩, h3⟩
    refine ⟨h1, fun j hj hjn => ?_⟩
    rcases (hQ j).1 hj with hj | rfl
    · exact h2 j hj hjn
    · exact h3
  · rintro ⟨h1, h2⟩
    exact ⟨⟨h1, fun j hj hjn => h2 j ((hQ j).2 (Or.inl hj)) hjn⟩, h2 k ((hQ k).2 (Or.inr rfl)) hk⟩⟩
theorem noTwice_nodup {l : List Ent} (h : NoTwice l) : l.Nodup := by
  unfold List.Nodup
  unfold NoTwice at h
  exact h.imp (fun hne e => hne (by rw [e]))
theorem Rem.perm {l : List Ent} {P Q : Nat → Prop} {n : Nat} {L2 la lb : List Ent} (h : Rem l P n L2 la) (h' : Rem l Q n L2 lb) (hPQ : ∀ j, j < n → (P j ↔ Q j)) (ha : NoTwice la) (hb : NoTwice lb) : la.Perm lb := by
  refine (List.perm_ext_iff_of_nodup (noTwice_nodup ha) (noTwice_nodup hb)).2 (fun e => ?_)
  rw [h.m, h'.m]
  exact and_congr_right fun _ => ⟨fun h j hj hjn => h j ((hPQ j hjn).2 hj) hjn, fun h j hj hjn => h j ((hPQ j hjn).1 hj) hjn⟩
/-- the greatest's order is the least's, from behind -/
theorem srt_rev {S T L M : List Ent} (hS : SrtE false S) (hT : SrtE true T) (hp : S.Perm L) (hq : T.Perm M) (hLM : L.Perm M) : S = T.reverse := by
  refine srt_unique (mo := false) hS ?_ (hp.trans (hLM.trans (hq.symm.trans (List.reverse_perm T).symm)))
  unfold SrtE
  rw [List.pairwise_reverse]
  exact hT
theorem atE_rev {T : List Ent} {N k m : Nat} (hN : T.length = N) (h : N = k + 1 + m) : atE T.reverse k = atE T m := by
  unfold atE
  rw [List.getD_eq_getElem?_getD, List.getD_eq_getElem?_getD, List.getElem?_reverse (by omega)]
  congr 2
  omega
/-- the top is the first of what is sorted -/
theorem top_first {mo : Bool} {L S : List Ent} (ho : HeapOk mo L) (hS : SrtE mo S) (hp : S.Perm L) (hL : 0 < L.length) : atE L 0 = atE S 0 := by
  cases S with
  | nil => have := hp.length_eq; simp at this; omega
  | cons a q =>
    show atE L 0 = a
    have hm : atE L 0 ∈ a :: q := hp.mem_iff.2 (atE_mem hL)
    rcases List.mem_cons.1 hm with h | h
    · exact h
    · have h1 := (List.pairwise_cons.1 hS).1 _ h
      obtain ⟨j, hj, e⟩ := List.getElem_of_mem (hp.mem_iff.1 (List.mem_cons_self (a := a) (l := q)))
      have e' : atE L j = a := by unfold atE; rw [List.getD_eq_getElem?_getD, List.getElem?_eq_getElem hj]; exact e
      have h2 := top_least ho j hj
      rw [e', h1] at h2
      cases h2
theorem EntRow.turn2 {S : List Nat} {w w' : World} {A : Option Addr} {n : Nat} {L : List Ent} (h : EntRow w A n L) (ht : Turned S w w') (hn : 0 < n → ∀ b off, A = some ⟨b, off, none⟩ → b ∉ S) : EntRow w' A n L where
  len := h.len
  row := fun h0 => by
    obtain ⟨b, off, e, hr⟩ := h.row h0
    exact ⟨b, off, e, fun i hi => ⟨ht.cell (hr i hi).1 (hn h0 b off e), ht.cell (hr i hi).2 (hn h0 b off e)⟩⟩
theorem SrtTo.far {w w' : World} {mo : Bool} {L S : List Ent} {A : Option Addr} {B : Nat} (h : SrtTo w w' mo L S A) (hB : B ≤ w.heap.size) : 0 < L.length → ∀ b off, A = some ⟨b, off, none⟩ → B ≤ b := fun h0 b off e => by
  obtain ⟨g, hg, hge⟩ := h.new h0
  rw [hg] at e
  injection e with e
  injection e with e
  subst e
  omega
/-- a count that goes down by one -/
theorem down_next (m : Nat) : (m = 0 ∧ Value.int .i64 ((m : Int) - 1) = .int .i64 (-1)) ∨ ∃ j : Nat, m = j + 1 ∧ Value.int .i64 ((m : Int) - 1) = .int .i64 j := by
  cases m with
  | zero => left; exact ⟨rfl, rfl⟩
  | succ j => right; refine ⟨j, rfl, ?_⟩; congr 1; omega
theorem stepIn_pos {l : List Ent} {e : Ent} : 0 < (stepIn l 0 e).length := by
  unfold stepIn
  cases hf : findE l e.2 with
  | none => simp
  | some i => have := (findE_some hf).1; simp; omega
end Go.Proofs.Ytlodgmmhaolmaaa
