/- Verify, plain: what a round of the document's Dead may lean on; what it knows. -/
import Derived.Test.YtbcajmkmadgbhaaGreatDoorVrRa
import Derived.Test.YtbcajmkmadgbhaaGreatDoorVrDr
set_option linter.unusedVariables false
namespace Go.Proofs.YtbcajmkmadgbhaaGreatDoor
open Go.RowKit
theorem ways_hs {L : List InsD} {hs : List Int} (hp : PassF L hs) {n : Nat} {i : InsD} {t : List Int} (hi : L[n]? = some i) (ht : ahdF L n (n : Int) = some t) : ∀ x ∈ waysR i n L.length (tauL t), ∃ m : Nat, x = m ∧ m < L.length ∧ hs[m]? = some ((behT i.c t).length : Int) := by
  have hr := dead_round hp hi ht
  have hlt : n < L.length := (List.getElem?_eq_some_iff.1 hi).1
  have hl0 := ahdF_len hp.formed hp.hei hp.ok hp.pos n
  have hst := (hei_ok hp.formed hp.hei).step n i _ (Nat.zero_le _) hi (hl0 n t hlt ht)
  have hl := behT_len rfl hst.takes hr.c1 hr.c2
  intro x hx
  rw [ways_sure hr.thr] at hx
  have hfall : n + 1 < L.length → x = (n : Int) + 1 → ∃ m : Nat, x = m ∧ m < L.length ∧ hs[m]? = some ((behT i.c t).length : Int) := fun h e => by
    have he : endC i.c = false := by
      cases he : endC i.c with
      | false => rfl
      | true => have := (hp.formed.ends n i hi).1 he; omega
    exact ⟨n + 1, by omega, h, by rw [hl]; exact hst.falls he⟩
  by_cases hj : jumpC i.c = true
  · rw [if_pos hj] at hx
    obtain ⟨q, h1, h2, h3, h4⟩ := hst.jumps hj
    have hn1 : n + 1 < L.length := by omega
    have hjmp : x = i.a → ∃ m : Nat, x = m ∧ m < L.length ∧ hs[m]? = some ((behT i.c t).length : Int) := fun e => ⟨q, by rw [e, h1], h3, by rw [hl]; exact h4⟩
    split at hx
    · simp at hx; exact hjmp hx
    · split at hx
      · simp at hx; exact hfall hn1 hx
      · simp at hx
        rcases hx with h | h
        · exact hfall hn1 h
        · exact hjmp h
  · rw [if_neg hj] at hx
    split at hx
    · rename_i hn
      simp at hx; exact hfall hn hx
    · cases hx
/-- the ways, one behind the other -/
def foldC (W : List Int) (b : List Int) (f : Int → Option (List Int)) : Int → Option (List Int) := W.foldl (fun f x => comeT f x b) f
theorem foldC_take {W : List Int} {b : List Int} {f : Int → Option (List Int)} {q : Nat} {x : Int} (h : W[q]? = some x) : foldC (W.take (q + 1)) b f = comeT (foldC (W.take q) b f) x b := by
  have hq := (List.getElem?_eq_some_iff.1 h).1
  have e : W[q] = x := (List.getElem?_eq_some_iff.1 h).2
  rw [List.take_succ_eq_append_getElem hq, e]
  unfold foldC
  rw [List.foldl_append]; rfl
theorem foldC_len {N : Nat} {hs : List Int} {b : List Int} : ∀ (W : List Int) (f : Int → Option (List Int)), (∀ (m : Nat) t, m < N → f m = some t → hs[m]? = some (t.length : Int)) → (∀ x ∈ W, ∃ m : Nat, x = m ∧ m < N ∧ hs[m]? = some (b.length : Int)) → ∀ (m : Nat) t, m < N → foldC W b f m = some t → hs[m]? = some (t.length : Int)
  | [], f, hf, _ => hf
  | x :: r, f, hf, hw => by
    show ∀ (m : Nat) t, m < N → foldC r b (comeT f x b) m = some t → _
    refine foldC_len r _ (comeT_len hf (fun m hm e => ?_)) (fun y hy => hw y (List.mem_cons_of_mem _ hy))
    obtain ⟨m', e', _, h'⟩ := hw x (List.mem_cons_self ..)
    have : m = m' := by omega
    rw [this]; exact h'
theorem foldC_thr {b : List Int} (hb : Thr b) : ∀ (W : List Int) (f : Int → Option (List Int)), (∀ m t, f m = some t → Thr t) → ∀ m t, foldC W b f m = some t → Thr t
  | [], f, hf => hf
  | x :: r, f, hf => foldC_thr hb r _ (comeT_thr hf hb)
/-- what stands for one instruction: nothing, or a stack -/
def StR (w : World) (B : Option Nat) (X : Nat) : Option (List Int) → Value → Prop
  | none, v => v = .slice none 0 0
  | some t, v => ∃ A k, v = .slice A t.length k ∧ I64L w A (tauL t) ∧ t.length ≤ k ∧ ∀ b off, A = some ⟨b, off, none⟩ → 0 < t.length → X ≤ b ∧ b < w.heap.size ∧ B ≠ some b
theorem row_turned {w w' : World} {A : Option Addr} {l : List Int} {T : List Nat} (h : I64L w A l) (ht : Turned T w w') (hn : ∀ b off, A = some ⟨b, off, none⟩ → 0 < l.length → b ∉ T) : I64L w' A l where
  row := fun hp => by
    obtain ⟨b, off, e, hr⟩ := h.row hp
    exact ⟨b, off, e, fun i x hx j v hj => ht.cell (hr i x hx j v hj) (hn b off e hp)⟩
  n := h.n
theorem StR.turned {w w' : World} {B : Option Nat} {X : Nat} {T : List Nat} {o : Option (List Int)} {v : Value} (h : StR w B X o v) (ht : Turned T w w') (hT : ∀ x ∈ T, x < X ∨ w.heap.size ≤ x ∨ B = some x) : StR w' B X o v := by
  cases o with
  | none => exact h
  | some t =>
    obtain ⟨A, k, e, hr, hk, hn⟩ := h
    refine ⟨A, k, e, row_turned hr ht (fun b off e hp hb => ?_), hk, fun b off e hp => ⟨(hn b off e hp).1, Nat.lt_of_lt_of_le (hn b off e hp).2.1 ht.size, (hn b off e hp).2.2⟩⟩
    rw [tauL_len] at hp
    obtain ⟨h1, h2, h3⟩ := hn b off e hp
    rcases hT b hb with h | h | h
    · omega
    · omega
    · exact h3 h
theorem StR.moved {w : World} {B B' : Option Nat} {X : Nat} {o : Option (List Int)} {v : Value} (h : StR w B X o v) (hB : B' = B ∨ ∃ g, B' = some g ∧ w.heap.size ≤ g) : StR w B' X o v := by
  cases o with
  | none => exact h
  | some t =>
    obtain ⟨A, k, e, hr, hk, hn⟩ := h
    refine ⟨A, k, e, hr, hk, fun b off e hp => ?_⟩
    obtain ⟨h1, h2, h3⟩ := hn b off e hp
    refine ⟨h1, h2, ?_⟩
    rcases hB with rfl | ⟨g, rfl, hg⟩
    · exact h3
    · intro e; injection e with e; omega
/-- the block that is avoided has grown, or moved -/
theorem StR.both {w w' : World} {B B' : Option Nat} {X : Nat} {T : List Nat} {o : Option (List Int)} {v : Value} (h : StR w B X o v) (ht : Turned T w w') (hT : ∀ x ∈ T, B = some x) (hB : B' = B ∨ ∃ g, B' = some g ∧ w.heap.size ≤ g) : StR w' B' X o v := by
  cases o with
  | none => exact h
  | some t =>
    obtain ⟨A, k, e, hr, hk, hn⟩ := h
    refine ⟨A, k, e, row_turned hr ht (fun b off e hp hb => ?_), hk, fun b off e hp => ?_⟩
    · rw [tauL_len] at hp
      exact (hn b off e hp).2.2 (hT b hb)
    · obtain ⟨h1, h2, h3⟩ := hn b off e hp
      refine ⟨h1, Nat.lt_of_lt_of_le h2 ht.size, ?_⟩
      rcases hB with rfl | ⟨g, rfl, hg⟩
      · exact h3
      · intro e; injection e with e; omega
/-- what the document's Dead knows: which have been come to (g), with what (f) -/
structure RdB (w wr : World) (S cb sb : Nat) (D : PrgD) (L : PLoc) (g : Nat → Bool) (f : Nat → Option (List Int)) (B : Option Nat) (d : List Int) (o : Value) : Prop where
  ec : EcB w wr S D L
  co : ∃ cs : List Bool, LB wr cb (boolC cs) ∧ cs.length = D.filter.length ∧ ∀ m, m < D.filter.length → cs[m]? = some (g m)
  st : ∃ vs : List Value, LB wr sb vs ∧ vs.length = D.filter.length ∧ ∀ m, m < D.filter.length → ∃ v, vs[m]? = some v ∧ StR wr B (sb + 1) (f m) v
  own : StkI wr B o d
  s1 : S + 1 < cb
  s2 : cb < sb
  bo : ∀ x, B = some x → sb < x
section
variable {w wr w' : World} {S cb sb : Nat} {D : PrgD} {L : PLoc} {g : Nat → Bool} {f : Nat → Option (List Int)} {B : Option Nat} {d : List Int} {o : Value}
theorem LB.turned {b : Nat} {l : List Value} {T : List Nat} (h : LB w b l) (ht : Turned T w w') (hT : b ∉ T) : LB w' b l := by
  have hl := h.lt
  obtain ⟨ty, h0⟩ := h
  exact ⟨ty, by rw [ht.block b hl hT]; exact h0⟩
theorem EcB.turned {w0 : World} {T : List Nat} (h : EcB w w0 S D L) (ht : Turned T w0 w') (hT : ∀ x ∈ T, S + 1 < x) : EcB w w' S D L := by
  obtain ⟨ty, h0⟩ := h.bad
  have h1 := block_lt h0
  have hb : Below (S + 1) w0 w' := ht.below (fun x hx => Nat.le_of_lt (hT x hx)) (by omega)
  exact ⟨h.box.belowAt (S + 1) (Nat.lt_succ_self _) hb, ⟨ty, by rw [ht.block (S + 1) h1 (fun hx => by have := hT _ hx; omega)]; exact h0⟩, h.below.trans (hb.mono (Nat.le_succ _)), h.eq, h.m0⟩
theorem RdB.sbl (h : RdB w wr S cb sb D L g f B d o) : sb < wr.heap.size := by obtain ⟨vs, h1, _⟩ := h.st; exact h1.lt
theorem RdB.step (h : RdB w wr S cb sb D L g f B d o) (hb : Below wr.heap.size wr w') : RdB w w' S cb sb D L g f B d o where
  ec := h.ec.step hb
  co := by obtain ⟨cs, h1, h2⟩ := h.co; exact ⟨cs, h1.below hb, h2⟩
  st := by
    obtain ⟨vs, h1, h2, h3⟩ := h.st
    exact ⟨vs, h1.below hb, h2, fun m hm => by obtain ⟨v, h4, h5⟩ := h3 m hm; exact ⟨v, h4, h5.turned (T := []) (Turned.ofBelow hb) (fun x hx => by cases hx)⟩⟩
  own := h.own.below hb
  s1 := h.s1
  s2 := h.s2
  bo := h.bo
theorem RdB.congr {g' : Nat → Bool} {f' : Nat → Option (List Int)} (h : RdB w wr S cb sb D L g f B d o) (hg : ∀ m, m < D.filter.length → g' m = g m) (hf : ∀ m, m < D.filter.length → f' m = f m) : RdB w wr S cb sb D L g' f' B d o where
  ec := h.ec
  co := by obtain ⟨cs, h1, h2, h3⟩ := h.co; exact ⟨cs, h1, h2, fun m hm => by rw [h3 m hm, hg m hm]⟩
  st := by obtain ⟨vs, h1, h2, h3⟩ := h.st; exact ⟨vs, h1, h2, fun m hm => by rw [hf m hm]; exact h3 m hm⟩
  own := h.own
  s1 := h.s1
  s2 := h.s2
  bo := h.bo
/-- one more that is dead -/
theorem RdB.more {B' : Option Nat} {d' : List Int} {o' : Value} (h : RdB w wr S cb sb D L g f B d o) (ht : Turned B.toList wr w') (hB : B' = B ∨ ∃ x, B' = some x ∧ wr.heap.size ≤ x) (hs : StkI w' B' o' d') : RdB w w' S cb sb D L g f B' d' o' where
  ec := h.ec.turned ht (fun x hx => by have := h.bo x (mem_toList hx); have := h.s1; have := h.s2; omega)
  co := by
    obtain ⟨cs, h1, h2⟩ := h.co
    exact ⟨cs, h1.turned ht (fun hx => by have := h.bo cb (mem_toList hx); have := h.s2; omega), h2⟩
  st := by
    obtain ⟨vs, h1, h2, h3⟩ := h.st
    refine ⟨vs, h1.turned ht (fun hx => by have := h.bo sb (mem_toList hx); omega), h2, fun m hm => ?_⟩
    obtain ⟨v, h4, h5⟩ := h3 m hm
    exact ⟨v, h4, h5.both ht (fun x hx => mem_toList hx) hB⟩
  own := hs
  s1 := h.s1
  s2 := h.s2
  bo := by
    rcases hB with rfl | ⟨x, rfl, hx⟩
    · exact h.bo
    · intro y e; injection e with e; have := h.sbl; omega
/-- a stack is set -/
theorem RdB.setS (h : RdB w wr S cb sb D L g f B d o) {m : Nat} (hm : m < D.filter.length) {t : List Int} {A : Option Addr} {k : Nat} (hr : I64L wr A (tauL t)) (hk : t.length ≤ k) (hn : ∀ b off, A = some ⟨b, off, none⟩ → 0 < t.length → sb + 1 ≤ b ∧ b < wr.heap.size ∧ B ≠ some b) : RdB w (wr.setCell ⟨sb, m, none⟩ (.slice A t.length k)) S cb sb D L g (fun j => if j = m then some t else f j) B d o := by
  have ht : Turned [sb] wr (wr.setCell ⟨sb, m, none⟩ (.slice A t.length k)) := Turned.set sb m _
  have hs1 := h.s1
  have hs2 := h.s2
  refine ⟨h.ec.turned ht (fun x hx => by simp at hx; omega), ?_, ?_, h.own.turned ht (fun x e hx => by simp at hx; have := h.bo x e; omega), h.s1, h.s2, h.bo⟩
  · obtain ⟨cs, h1, h2⟩ := h.co
    exact ⟨cs, h1.other (by omega), h2⟩
  · obtain ⟨vs, h1, h2, h3⟩ := h.st
    refine ⟨vs.set m (.slice A t.length k), h1.set m _, by rw [List.length_set]; exact h2, fun j hj => ?_⟩
    by_cases e : j = m
    · subst e
      refine ⟨_, List.getElem?_set_self (by omega), ?_⟩
      simp only [if_true]
      have h4 : StR wr B (sb + 1) (some t) (.slice A t.length k) := ⟨A, k, rfl, hr, hk, hn⟩
      exact h4.turned ht (fun x hx => by simp at hx; omega)
    · obtain ⟨v, h4, h5⟩ := h3 j hj
      refine ⟨v, by rw [List.getElem?_set_ne (fun x => e x.symm)]; exact h4, ?_⟩
      simp only [if_neg e]
      exact h5.turned ht (fun x hx => by simp at hx; omega)
/-- one is come to -/
theorem RdB.setC (h : RdB w wr S cb sb D L g f B d o) {m : Nat} (hm : m < D.filter.length) : RdB w (wr.setCell ⟨cb, m, none⟩ (.bool true)) S cb sb D L (fun j => if j = m then true else g j) f B d o := by
  have ht : Turned [cb] wr (wr.setCell ⟨cb, m, none⟩ (.bool true)) := Turned.set cb m _
  have hs1 := h.s1
  have hs2 := h.s2
  refine ⟨h.ec.turned ht (fun x hx => by simp at hx; omega), ?_, ?_, h.own.turned ht (fun x e hx => by simp at hx; have := h.bo x e; omega), h.s1, h.s2, h.bo⟩
  · obtain ⟨cs, h1, h2, h3⟩ := h.co
    refine ⟨cs.set m true, by rw [← boolC_set]; exact h1.set m _, by rw [List.length_set]; exact h2, fun j hj => ?_⟩
    by_cases e : j = m
    · subst e
      rw [List.getElem?_set_self (by omega)]
      simp
    · rw [List.getElem?_set_ne (fun x => e x.symm), if_neg e]; exact h3 j hj
  · obtain ⟨vs, h1, h2, h3⟩ := h.st
    exact ⟨vs, h1.other (by omega), h2, fun j hj => by obtain ⟨v, h4, h5⟩ := h3 j hj; exact ⟨v, h4, h5.turned ht (fun x hx => by simp at hx; omega)⟩⟩
theorem RdB.cAt (h : RdB w wr S cb sb D L g f B d o) {m : Nat} (hm : m < D.filter.length) : wr.cell? ⟨cb, m, none⟩ = some (.bool (g m)) ∧ wr.frozen? ⟨cb, m, none⟩ = false := by
  obtain ⟨cs, h1, h2, h3⟩ := h.co
  exact ⟨h1.at m _ (by unfold boolC; rw [List.getElem?_map, h3 m hm]; rfl), h1.free m⟩
theorem RdB.sAt (h : RdB w wr S cb sb D L g f B d o) {m : Nat} (hm : m < D.filter.length) : ∃ v, wr.cell? ⟨sb, m, none⟩ = some v ∧ wr.frozen? ⟨sb, m, none⟩ = false ∧ StR wr B (sb + 1) (f m) v := by
  obtain ⟨vs, h1, h2, h3⟩ := h.st
  obtain ⟨v, h4, h5⟩ := h3 m hm
  exact ⟨v, h1.at m v h4, h1.free m, h5⟩
end
end Go.Proofs.YtbcajmkmadgbhaaGreatDoor
