/- The law HeapPlays. Condition: errors.errorType holds the handle of the type error. -/
import Derived.Test.YtlodgmmhaolmaaaDoorPl1
import Derived.Deep.RegionHeld3
set_option linter.unusedSimpArgs false
set_option linter.unusedVariables false
namespace Go.Proofs.YtlodgmmhaolmaaaDoor
open Go.RowKit
theorem foot_list {hb mb : Nat} {x : Nat} {v : Value} (hv : v = .slice none 0 0) (hx : x ∈ foot hb mb v) : x = hb ∨ x = mb := by
  subst hv
  simp only [foot, List.mem_cons, Option.mem_toList] at hx
  rcases hx with h | h | h
  · exact Or.inl h
  · exact Or.inr h
  · cases h
theorem rfoot_list {rb : Nat} {x : Nat} {v : Value} (hv : v = .slice none 0 0) (hx : x ∈ rfoot rb v) : x = rb := by
  subst hv
  simp only [rfoot, List.mem_cons, Option.mem_toList] at hx
  rcases hx with h | h
  · exact h
  · cases h
theorem infoPH : ∃ i, Tryd.prog.info? 28 = some i ∧ i.zero = some (.pointer none) ∧ i.size = 1 ∧ i.bytes = 8 :=
  info_parts (show (Tryd.prog.info? 28).map (fun i => (i.zero, i.size, i.bytes)) = some (some (.pointer none), 1, 8) by kernel_rfl)
theorem infoPR : ∃ i, Tryd.prog.info? 44 = some i ∧ i.zero = some (.pointer none) ∧ i.size = 1 ∧ i.bytes = 8 :=
  info_parts (show (Tryd.prog.info? 44).map (fun i => (i.zero, i.size, i.bytes)) = some (some (.pointer none), 1, 8) by kernel_rfl)
/-- the start: one heap of each side -/
theorem pl_start {w w1 w3 : World} {hb mb rb X : Nat} (h1 : HeapAt w1 hb mb (.slice none 0 0) [] false 0) (hb1 : Below w.heap.size w w1) (h1a : w.heap.size ≤ hb) (h1b : w.heap.size ≤ mb)
    (h3 : RefAt w3 rb (.slice none 0 0) [] false 0) (hb3 : Below (w1.alloc (.cells #[.pointer (some ⟨hb, 0, none⟩)] 28)).heap.size (w1.alloc (.cells #[.pointer (some ⟨hb, 0, none⟩)] 28)) w3) (h3a : (w1.alloc (.cells #[.pointer (some ⟨hb, 0, none⟩)] 28)).heap.size ≤ rb) :
    PlIn w (w3.alloc (.cells #[.pointer (some ⟨rb, 0, none⟩)] 44)) w1.heap.size 1 ([some (⟨hb, mb, .slice none 0 0, rb, .slice none 0 0, [], false, 0⟩ : PrD)].map hP) w3.heap.size 1 ([some (⟨hb, mb, .slice none 0 0, rb, .slice none 0 0, [], false, 0⟩ : PrD)].map mP) [some ⟨hb, mb, .slice none 0 0, rb, .slice none 0 0, [], false, 0⟩] X := by
  have hs1 := hb1.size
  have hl1 := h1.footLt
  have hn1 := below1 w1 (.cells #[.pointer (some ⟨hb, 0, none⟩)] 28)
  have hz1 : (w1.alloc (.cells #[.pointer (some ⟨hb, 0, none⟩)] 28)).heap.size = w1.heap.size + 1 := by simp
  have hs3 := hb3.size
  rw [hz1] at hb3 h3a hs3
  have hl3 := h3.footLt
  have hn3 := below1 w3 (.cells #[.pointer (some ⟨rb, 0, none⟩)] 44)
  have hfo : ∀ x ∈ foot hb mb (.slice none 0 0), w.heap.size ≤ x ∧ x < w1.heap.size := fun x hx => ⟨by rcases foot_list rfl hx with h | h <;> omega, hl1 x hx⟩
  have hro : ∀ x ∈ rfoot rb (.slice none 0 0), w1.heap.size + 1 ≤ x ∧ x < w3.heap.size := fun x hx => ⟨by have := rfoot_list rfl hx; omega, hl3 x hx⟩
  have hrow0 := World.ownsRow_lit (base := w.heap.size) (e := 28) (size := 1) w1 #[.pointer (some ⟨hb, 0, none⟩)] 1 hs1 (by decide) rfl
  have hrow1 := World.ownsRow_lit (base := w.heap.size) (e := 44) (size := 1) w3 #[.pointer (some ⟨rb, 0, none⟩)] 1 (by omega) (by decide) rfl
  have hbb3 : Below (w1.heap.size + 1) (w1.alloc (.cells #[.pointer (some ⟨hb, 0, none⟩)] 28)) (w3.alloc (.cells #[.pointer (some ⟨rb, 0, none⟩)] 44)) := hb3.trans (hn3.mono hs3)
  have hp : PrAt (w3.alloc (.cells #[.pointer (some ⟨rb, 0, none⟩)] 44)) hb mb (.slice none 0 0) rb (.slice none 0 0) [] false 0 := ⟨(h1.below hn1).below (by rw [hz1]; exact hbb3), h3.below hn3, fun x hx hm => by have := (hfo x hx).2; have := (hro x hm).1; omega⟩
  have h0 : ∀ j, j < [some (⟨hb, mb, .slice none 0 0, rb, .slice none 0 0, [], false, 0⟩ : PrD)].length → pAt [some (⟨hb, mb, .slice none 0 0, rb, .slice none 0 0, [], false, 0⟩ : PrD)] j = some ⟨hb, mb, .slice none 0 0, rb, .slice none 0 0, [], false, 0⟩ := fun j hj => by
    have : j = 0 := by simpa using hj
    subst this; rfl
  have hpf : ∀ x ∈ pfoot hb mb (.slice none 0 0) rb (.slice none 0 0), w.heap.size ≤ x ∧ x ≠ w1.heap.size ∧ x < w3.heap.size := fun x hx => by
    rcases List.mem_append.1 hx with hx | hx
    · have := hfo x hx; omega
    · have := hro x hx; omega
  refine ⟨(hb1.trans (hn1.mono hs1)).trans (hbb3.mono (by omega)), ?_, hrow1, fun j hj => by rw [h0 j hj]; exact ⟨hp, Nat.zero_le _⟩, fun j hj => by rw [h0 j hj]; exact fun x hx => (hpf x hx).1, fun j k hj hk hjk => ?_, fun j hj => by rw [h0 j hj]; exact ⟨fun hm => (hpf _ hm).2.1 rfl, fun hm => by have := (hpf _ hm).2.2; omega⟩, by omega⟩
  · exact row_kept2 (S := []) hrow0 (Turned.ofBelow (by rw [hz1]; exact hbb3)) (by simp)
  · simp at hj hk; omega
theorem alike_o (o : Option PrD) (X : Nat) (s : List UInt8) (w : World) (h : okO w X o) (hs : s.length ≤ 9223372036854775807) (hX : X * 24 ≤ 225179981352000) : Calls Tryd.prog 24 #[hP o, mP o, strV s] w fun e w' => e = .returned (.bool true) ∧ Below w.heap.size w w' := by
  cases o with
  | none => exact alike_nil s w
  | some p => exact alike_any p.hb p.mb p.v p.rb p.rv p.L p.mo p.mv s w h.1.h h.1.m hs (by have := h.2; omega)
theorem PlIn.called {w w2 w5 : World} {hg hc rg rc : Nat} {ps : List (Option PrD)} {Y i : Nat} {p : PrD} (h : PlIn w w2 hg hc (ps.map hP) rg rc (ps.map mP) ps Y) (hi : i < ps.length) (hp : pAt ps i = some p) {v' rv' : Value} {L' : List Ent} {mv' : Nat}
    (ht : PrTo w2.drew w5 p.hb p.mb p.v v' p.rb p.rv rv' L' p.mo mv') (hL : L'.length ≤ p.L.length + 1) (hpl : p.L.length ≤ Y) : ∃ qs : List (Option PrD), PlIn w w5 hg hc (qs.map hP) rg rc (qs.map mP) qs (Y + 1) ∧ qs.length = ps.length := by
  have h2 := ((h.step (Below.refl _ _).drew).more (Nat.le_succ Y)).upd hi hp ht (by omega)
  refine ⟨ps.set i (some { p with v := v', rv := rv', L := L', mv := mv' }), ?_, by simp⟩
  rw [map_set_same hi (by rw [hp]; rfl), map_set_same hi (by rw [hp]; rfl)]
  exact h2
theorem ptr_news (w : World) (x : Value) (T : TypeId) : ∀ (j : Nat) (u : Value), [x][j]? = some u → (w.alloc (.cells #[x] T)).cell? ((⟨w.heap.size, 0, none⟩ : Addr).add j) = some u := fun j u hj => by
  have h0 : j = 0 := by
    have := (List.getElem?_eq_some_iff.1 hj).1
    simpa using this
  subst h0
  have e : (⟨w.heap.size, 0, none⟩ : Addr).add 0 = ⟨w.heap.size, 0, none⟩ := by simp [Addr.add]
  rw [e, World.cell?_alloc_at _ _ _ _ rfl]
  simpa using hj
theorem ptr_one (x : Option Addr) : ∀ u ∈ [Value.pointer x], u.oneCell' = true := fun u hu => by
  simp only [List.mem_cons, List.not_mem_nil, or_false] at hu
  subst hu
  rfl
theorem PlIn.hrow1 {w wr : World} {hg hc rg rc N : Nat} {hps mps : List Value} {ps : List (Option PrD)} {X : Nat} (h : PlIn w wr hg hc hps rg rc mps ps X) (hn : hps.length = N) (o : Obj) : (wr.alloc o).ownsRow w.heap.size 28 1 (.slice (some ⟨hg, 0, none⟩) N hc) N hps := by
  have := (h.step (below1 wr o)).hrow
  rwa [hn] at this
theorem PlIn.mrow1 {w wr : World} {hg hc rg rc N : Nat} {hps mps : List Value} {ps : List (Option PrD)} {X : Nat} (h : PlIn w wr hg hc hps rg rc mps ps X) (hn : mps.length = N) (o : Obj) : (wr.alloc o).ownsRow w.heap.size 44 1 (.slice (some ⟨rg, 0, none⟩) N rc) N mps := by
  have := (h.step (below1 wr o)).mrow
  rwa [hn] at this
theorem hd_le {g g0 : Nat} {w : World} {o : Obj} {P Q : Prop} (h : (g = g0 ∧ P) ∨ ((w.alloc o).heap.size ≤ g ∧ Q)) : g = g0 ∨ w.heap.size ≤ g := by
  rcases h with h | h
  · exact Or.inl h.1
  · exact Or.inr (Nat.le_trans (below1 w o).size h.1)
theorem box_kept {w w' : World} {B : Nat} {o : Obj} {S : List Nat} (h : w.heap[B]? = some o) (ht : Turned S w w') (hS : B ∉ S) : w'.heap[B]? = some o := (ht.block B (block_lt h) hS).trans h
theorem cell_app {w w2 : World} {base : Nat} {e : TypeId} {g r c c' N i : Nat} {xs : List Value} {x v : Value} {o : Obj} (hold : (w.alloc o).ownsRow base e 1 (.slice (some ⟨r, 0, none⟩) N c) N xs) (hnew : w2.ownsRow base e 1 (.slice (some ⟨g, 0, none⟩) (N + 1) c') (N + 1) (xs ++ [x]))
    (hd : (g = r ∧ (w.alloc o).grownBy w2 (some g)) ∨ ((w.alloc o).heap.size ≤ g ∧ (w.alloc o).grownBy w2 none)) (hi : i < N) (hc : w.cell? ⟨r, i, none⟩ = some v) : w2.cell? ⟨r, i, none⟩ = some v := by
  have h1 := cellS hc (below1 w o)
  rcases hd with ⟨rfl, _⟩ | ⟨_, h2⟩
  · rw [hnew.cellAt i (by omega)]
    rw [hold.cellAt i (by omega)] at h1
    rw [List.getElem?_append_left (List.getElem?_eq_some_iff.1 h1).1]
    exact h1
  · exact h2.cell h1 (by simp)
theorem cellS2 {x x' : World} {a b : Addr} {v u : Value} (h : x.cell? a = some v ∧ x.cell? b = some u) (hb : Below x.heap.size x x') : x'.cell? a = some v ∧ x'.cell? b = some u := ⟨cellS h.1 hb, cellS h.2 hb⟩
theorem known_not {L : List Ent} {k1 k2 : Nat} (h12 : k1 < k2) (hk : k1 < L.length) (hN : NoTwice (L.take k2)) (hf : findE (L.take k1) (atE L k1).2 ≠ none) : False := by
  cases hfe : findE (L.take k1) (atE L k1).2 with
  | none => exact hf hfe
  | some i =>
    obtain ⟨h1, h2⟩ := findE_some hfe
    have hm := atE_mem h1
    have h3 : NoTwice (L.take (k1 + 1)) := by
      have h4 : L.take (k1 + 1) = (L.take k2).take (k1 + 1) := by rw [List.take_take, Nat.min_eq_left (by omega)]
      rw [h4]
      exact hN.sublist (List.take_sublist _ _)
    rw [take_snoc hk] at h3
    exact (List.pairwise_append.1 h3).2.2 _ hm _ (List.mem_singleton.2 rfl) h2
theorem known_same {L : List Ent} {k1 k2 : Nat} (hk1 : k1 < L.length) (hk2 : k2 < L.length) (hN1 : NoTwice (L.take k1)) (hN2 : NoTwice (L.take k2)) (hf1 : findE (L.take k1) (atE L k1).2 ≠ none) (hf2 : findE (L.take k2) (atE L k2).2 ≠ none) : k1 = k2 := by
  rcases Nat.lt_trichotomy k1 k2 with h | h | h
  · exact (known_not h hk1 hN2 hf1).elim
  · exact h
  · exact (known_not h hk2 hN1 hf2).elim
theorem known_all {L : List Ent} {k : Nat} (hk : k < L.length) (hN : NoTwice L) (hf : findE (L.take k) (atE L k).2 ≠ none) : False :=
  known_not (k2 := L.length) hk hk (by rw [List.take_length]; exact hN) hf
/-- a row has grown, its box laid ahead -/
structure PlG (w wr w2 : World) (hg hc : Nat) (hps : List Value) (rg rc : Nat) (mps : List Value) (ps : List (Option PrD)) (X : Nat) (T : List Nat) : Prop where
  p : PlIn w w2 hg hc hps rg rc mps ps X
  t : Turned T wr w2
theorem PlIn.grow1 {w wr w2 : World} {hg hc rg rc N g c : Nat} {hps mps : List Value} {ps : List (Option PrD)} {X : Nat} {x : Value} {o : Obj} (h : PlIn w wr hg hc hps rg rc mps ps X) (hn : hps.length = N)
    (ho : w2.ownsRow w.heap.size 28 1 (.slice (some ⟨g, 0, none⟩) (N + 1) c) (N + 1) (hps ++ [x])) (hd : (g = hg ∧ (wr.alloc o).grownBy w2 (some g)) ∨ ((wr.alloc o).heap.size ≤ g ∧ (wr.alloc o).grownBy w2 none)) :
    PlG w wr w2 g c (hps ++ [x]) rg rc mps ps X [hg] := by
  have h1 := (h.step (below1 wr o)).app1 hn ho hd
  exact ⟨h1.1, (Turned.ofBelow (below1 wr o)).trans h1.2⟩
theorem PlIn.grow2 {w wr w2 : World} {hg hc rg rc N g c : Nat} {hps mps : List Value} {ps : List (Option PrD)} {X : Nat} {x : Value} {o : Obj} (h : PlIn w wr hg hc hps rg rc mps ps X) (hn : mps.length = N)
    (ho : w2.ownsRow w.heap.size 44 1 (.slice (some ⟨g, 0, none⟩) (N + 1) c) (N + 1) (mps ++ [x])) (hd : (g = rg ∧ (wr.alloc o).grownBy w2 (some g)) ∨ ((wr.alloc o).heap.size ≤ g ∧ (wr.alloc o).grownBy w2 none)) :
    PlG w wr w2 hg hc hps g c (mps ++ [x]) ps X [rg] := by
  have h1 := (h.step (below1 wr o)).app2 hn ho hd
  exact ⟨h1.1, (Turned.ofBelow (below1 wr o)).trans h1.2⟩
set_option maxHeartbeats 8000000 in
set_option maxRecDepth 100000 in
theorem plays_law (A : Option Addr) (n cap : Nat) (kd : Nat → Int) (en : Nat → Ent) (x1 : Nat → Int) (x2 : Nat → Bool) (x5 : Nat → Option Addr × Nat × Nat) (X : Nat) (w : World) (hG : Glob w) (ho : OpRow w A n kd en x1 x2 x5)
    (hx : ∀ k, k < n → ∃ Lk, EntRow w (x5 k).1 (x5 k).2.1 Lk ∧ Texts Lk ∧ ((x5 k).1 = none → (x5 k).2.1 = 0 ∧ (x5 k).2.2 = 0) ∧ (x5 k).2.1 ≤ X) (hX : (X + n + 2) * 24 ≤ 225179981352000) (hn0 : n + 2 ≤ 5864062014805) :
    Calls Tryd.prog 5 #[.slice A n cap] w fun e w' => e = .returned (.bool true) ∧ Below w.heap.size w w' := by
  obtain ⟨iH, q1, q2, q3, q4⟩ := infoPH
  have HIH : Bx _ := ⟨And.intro q1 (And.intro q2 (And.intro q3 q4))⟩
  obtain ⟨iR, p1, p2, p3, p4⟩ := infoPR
  have HIR : Bx _ := ⟨And.intro p1 (And.intro p2 (And.intro p3 p4))⟩
  have HR := Bx.mk (And.intro ho (And.intro hx hG))
  have hn60 := hn0
  have HX24 := Bx.mk hX
  clear hX hn0
  have kn := new_heap false w
  clear ho hx hG q1 q2 q3 q4 p1 p2 p3 p4
  go_enter Tryd.func5, Tryd.ntmps5
  go_wp2_with fail
  refine kn.mono ?_
  rintro e w1 ⟨hb, mb, rfl, h1, hb1, h1a, h1b⟩
  have kr := rnew_any false (w1.alloc (.cells #[.pointer (some ⟨hb, 0, none⟩)] 28))
  have H1 := Bx.mk (And.intro h1 (And.intro hb1 (And.intro h1a h1b)))
  clear kn h1 hb1 h1a h1b
  go_wp2_with fail
  refine kr.mono ?_
  rintro e w3 ⟨rb, rfl, h3, hb3, h3a⟩
  have H3 := Bx.mk (pl_start (X := X) H1.out.1 H1.out.2.1 H1.out.2.2.1 H1.out.2.2.2 h3 hb3 h3a)
  clear kr h3 hb3 h3a H1
  go_wp2_with fail
  have HS0 : Bx (PlIn w (w3.alloc (.cells #[.pointer (some ⟨rb, 0, none⟩)] 44)) w1.heap.size 1 ([some (⟨hb, mb, .slice none 0 0, rb, .slice none 0 0, [], false, 0⟩ : PrD)].map hP) w3.heap.size 1 ([some (⟨hb, mb, .slice none 0 0, rb, .slice none 0 0, [], false, 0⟩ : PrD)].map mP) [some ⟨hb, mb, .slice none 0 0, rb, .slice none 0 0, [], false, 0⟩] (X + 0)) := H3
  go_loopw [3, 4, 7, 8, 9, 10, 12, 19] (fun h m _ _ _ _ _ i wr => ∃ (k hg hc rg rc : Nat) (ps : List (Option PrD)) (N : Nat), h = .slice (some ⟨hg, 0, none⟩) (N + 1) hc ∧ m = .slice (some ⟨rg, 0, none⟩) (N + 1) rc ∧ i = .int .i64 k ∧ k ≤ n ∧ N ≤ k ∧ Bx (PlIn w wr hg hc (ps.map hP) rg rc (ps.map mP) ps (X + k) ∧ ps.length = N + 1)) (fun _ _ _ _ _ _ _ i _ => n - (intOf i).toNat)
  case atStart => exact ⟨0, _, 1, _, 1, _, 0, rfl, rfl, rfl, by omega, by omega, ⟨HS0.out, rfl⟩⟩
  case round =>
    obtain ⟨k, hg, hc, rg, rc, ps, N, rfl, rfl, rfl, hk, hNk, HI⟩ := hrel
    clear H3 HS0
    rename World => w0
    by_cases hlt : k < n
    · obtain ⟨b, off, rfl, hrow⟩ := (HR.out.1.below HI.out.1.b).row (by omega)
      obtain ⟨a0, a1, a2, a3, a4, a5⟩ := hrow k hlt
      have hts := HR.out.1.txt k hlt
      have HXL := Bx.mk (HR.out.2.1 k hlt)
      obtain ⟨K, hK⟩ : ∃ K, kd k = K := ⟨_, rfl⟩
      obtain ⟨r, hr⟩ : ∃ r, (en k).1 = r := ⟨_, rfl⟩
      obtain ⟨s, hs⟩ : ∃ s, (en k).2 = s := ⟨_, rfl⟩
      rw [hK] at a0
      rw [hr] at a3
      rw [hs] at a4 hts
      generalize x1 k = y1 at *
      generalize x2 k = y2 at *
      generalize x5 k = y5 at *
      obtain ⟨y5a, y5n, y5c⟩ := y5
      simp only at a5 HXL
      have HSR := Bx.mk hts
      clear hrow hK hr hs hts
      go_upto_region 6 with (fail)
      change Code.wp _ _ _ _ (w0.alloc (.cells (opBox K y1 y2 r s y5a y5n y5c) 48))
      have hbl := heap_alloc_new w0 (.cells (opBox K y1 y2 r s y5a y5n y5c) 48)
      have hn0 := below1 w0 (.cells (opBox K y1 y2 r s y5a y5n y5c) 48)
      have HI2 := Bx.mk (And.intro (HI.out.1.step hn0) (And.intro HI.out.2 (And.intro hbl (And.intro (show w0.heap.size ≠ hg ∧ w0.heap.size ≠ rg ∧ ∀ j, j < ps.length → w0.heap.size ∉ footO (pAt ps j) from ⟨by have := HI.out.1.hlt; omega, by have := HI.out.1.hlt; omega, fun j hj hm => by have := (HI.out.1.ok j hj).lt _ hm; omega⟩) (show w.heap.size ≤ w0.heap.size from HI.out.1.b.size)))))
      clear a0 a1 a2 a3 a4 a5 HI hn0 hbl
      generalize w0.alloc (.cells (opBox K y1 y2 r s y5a y5n y5c) 48) = w2 at *
      obtain ⟨B, hB⟩ : ∃ B, w0.heap.size = B := ⟨_, rfl⟩
      rw [hB] at HI2
      simp only [hB]
      clear hB
      have z0 : w2.cell? ⟨B, 0, none⟩ = some (.int .i64 K) := cells_at HI2.out.2.2.1 0 _ rfl
      have z1 : w2.cell? ⟨B, 1, none⟩ = some (.int .i64 y1) := cells_at HI2.out.2.2.1 1 _ rfl
      have kw := which_any y1 (N + 1) w2 (by omega) (by omega)
      rw [Int.natCast_succ] at kw
      go_upto_region 10 with (go_at_call 17; refine kw.mono ?_; rintro e w' ⟨i, hi, rfl, rfl⟩)
      rename World => w2
      clear z1 kw
      have hiI : (i : Int) < (N : Int) + 1 := by omega
      by_cases k4 : K = 4
      · subst k4
        have HLP : Bx ((ps.map hP).length = N + 1 ∧ (ps.map mP).length = N + 1) := ⟨by rw [List.length_map]; exact HI2.out.2.1, by rw [List.length_map]; exact HI2.out.2.1⟩
        have hB8 : (N + 1 + 1) * 8 ≤ 140737488355328 := by omega
        have hBm : N + 1 + 1 ≤ maxLen := by unfold maxLen; omega
        have hsz2 := HI2.out.1.b.size
        have HW := Bx.mk (And.intro (HI2.out.1.step (Below.refl w2.heap.size w2).drew) (And.intro (show hg < w2.heap.size ∧ rg < w2.heap.size from ⟨HI2.out.1.hlt.1.2, HI2.out.1.hlt.2.2⟩) (show ∀ j, j < ps.length → ∀ x ∈ footO (pAt ps j), x < w2.heap.size from fun j hj => (HI2.out.1.ok j hj).lt)))
        obtain ⟨c1, c2⟩ := HI2.out.1.cells (i := i) (by rw [HI2.out.2.1]; exact hi)
        have hok := HI2.out.1.ok i (by rw [HI2.out.2.1]; exact hi)
        have c1d : w2.drew.cell? ⟨hg, i, none⟩ = some (hP (pAt ps i)) := c1
        have c2d : w2.drew.cell? ⟨rg, i, none⟩ = some (mP (pAt ps i)) := c2
        clear c1 c2
        cases hp : pAt ps i with
        | none =>
          rw [hp] at c1d c2d
          simp only [hP, mP] at c1d c2d
          have kf := fun w => fork_nil w
          have krf := fun w => rfork_nil w
          clear hok hp
          go_upto_region 11 with (fail)
          go_region_held3 (fun x => x.cell? ⟨hg, i, none⟩ = some (.pointer none) ∧ x.cell? ⟨rg, i, none⟩ = some (.pointer none))
            (first | exact ⟨c1d, c2d⟩ | assumption | (exact cellS2 (by assumption) (below1 _ _)))
            (first
              | (go_at_call 18; (with_reducible refine (kf _).mono ?_); rintro e w5 ⟨rfl, hw5⟩; have hs5 : w5.cell? ⟨hg, i, none⟩ = some (.pointer none) ∧ w5.cell? ⟨rg, i, none⟩ = some (.pointer none) := (by rw [hw5]; exact ⟨c1d, c2d⟩); have H5 : Bx (PlIn w w5 hg hc (ps.map hP) rg rc (ps.map mP) ps (X + k) ∧ w5.heap[B]? = some (.cells (opBox 4 y1 y2 r s y5a y5n y5c) 48 (0, 0))) := (by rw [hw5]; exact ⟨HW.out.1, HI2.out.2.2.1⟩); have hz5 := H5.out.1.b.size; clear hw5)
              | (refine step_append_keep rfl _ _ 43 rfl w.heap.size 28 iH (.pointer none) 1 8 Tryd.underlying43 HIH.out.1 HIH.out.2.1 HIH.out.2.2.1 HIH.out.2.2.2 rfl (by decide) hg (N + 1) hc (ps.map hP) (by simp [Act.eval, Act.put]) (H5.out.1.hrow1 HLP.out.1 _) ⟨w5.heap.size, 0, none⟩ 1 1 [.pointer none] (by simp [Act.eval, Act.put]) rfl (ptr_news w5 _ _) (ptr_one _) (by decide) hBm hB8 (Nat.le_trans hz5 (below1 w5 _).size) ?_; intro g c' w6 hown hd; have h6 := H5.out.1.grow1 HLP.out.1 hown hd; have hs6 := And.intro (cell_app (H5.out.1.hrow1 HLP.out.1 _) hown hd hi hs5.1) (h6.t.cell hs5.2 (by simpa using HI2.out.1.ne.symm)); have H6 := Bx.mk (And.intro h6.p (box_kept H5.out.2 h6.t (by simpa using HI2.out.2.2.2.1.1))); clear h6 hown hd)
              | (go_at_call 19; (with_reducible refine (krf _).mono ?_); rintro e w7 ⟨rfl, hw7⟩; have hs7 : w7.cell? ⟨hg, i, none⟩ = some (.pointer none) ∧ w7.cell? ⟨rg, i, none⟩ = some (.pointer none) := (by rw [hw7]; exact hs6); have H7 : Bx (PlIn w w7 g c' (ps.map hP ++ [.pointer none]) rg rc (ps.map mP) ps (X + k) ∧ w7.heap[B]? = some (.cells (opBox 4 y1 y2 r s y5a y5n y5c) 48 (0, 0))) := (by rw [hw7]; exact H6); have hz7 := H7.out.1.b.size; clear hw7)
              | (refine step_append_keep rfl _ _ 46 rfl w.heap.size 44 iR (.pointer none) 1 8 Tryd.underlying46 HIR.out.1 HIR.out.2.1 HIR.out.2.2.1 HIR.out.2.2.2 rfl (by decide) rg (N + 1) rc (ps.map mP) (by simp [Act.eval, Act.put]) (H7.out.1.mrow1 HLP.out.2 _) ⟨w7.heap.size, 0, none⟩ 1 1 [.pointer none] (by simp [Act.eval, Act.put]) rfl (ptr_news w7 _ _) (ptr_one _) (by decide) hBm hB8 (Nat.le_trans hz7 (below1 w7 _).size) ?_; intro g2 c2' w8 hown hd; have h8 := H7.out.1.grow2 HLP.out.2 hown hd; have hs8 := And.intro (h8.t.cell hs7.1 (by simpa using HI2.out.1.ne)) (cell_app (H7.out.1.mrow1 HLP.out.2 _) hown hd hi hs7.2); have H8 := Bx.mk (And.intro h8.p (box_kept H7.out.2 h8.t (by simpa using HI2.out.2.2.2.1.2.1))); clear h8 hown hd))
          have hfin := (H8.out.1.add none trivial (fun x hx => by cases hx)).more (show X + k ≤ X + (k + 1) by omega)
          obtain ⟨qs, hqs⟩ : ∃ qs, ps ++ [none] = qs := ⟨_, rfl⟩
          have HT : Bx (PlIn w w8 g c' (qs.map hP) g2 c2' (qs.map mP) qs (X + (k + 1)) ∧ qs.length = N + 1 + 1 ∧ w8.heap[B]? = some (.cells (opBox 4 y1 y2 r s y5a y5n y5c) 48 (0, 0))) := ⟨by rw [← hqs, List.map_append, List.map_append]; exact hfin, by rw [← hqs, List.length_append, HI2.out.2.1]; rfl, H8.out.2⟩
          have hN1 : (N : Int) + 1 < (N : Int) + 1 + 1 := by omega
          clear hfin hqs z0 hs5 hs6 hs7 hs8 c1d c2d kf krf hsz2 hz5 hz7 hB8 hBm HLP
          go_wp2_with fail
          obtain ⟨c3, c4⟩ := HT.out.1.cells (i := i) (by rw [HT.out.2.1]; omega)
          obtain ⟨c1, c2⟩ := HT.out.1.cells (i := (N+1)) (by rw [HT.out.2.1]; omega)
          have zs : w8.cell? ⟨B, 4, none⟩ = some (strV s) := cells_at HT.out.2.2 4 _ rfl
          have hXk : (X + (k + 1)) * 24 ≤ 225179981352000 := Nat.le_trans (Nat.mul_le_mul_right 24 (show X + (k + 1) ≤ X + n + 2 by omega)) HX24.out
          have hoki := HT.out.1.ok i (by rw [HT.out.2.1]; omega)
          have ka0 : ∀ d os, okO (Go.Sort.grow (redrawn w8 d) os) (X + (k + 1)) (pAt qs i) := fun d os => hoki.kept (S := []) (Turned.ofBelow (below_regrown w8 d os)) (by simp)
          have ka := fun d os => alike_o (pAt qs i) (X + (k + 1)) s (Go.Sort.grow (redrawn w8 d) os) (ka0 d os) HSR.out hXk
          clear hXk hoki ka0
          generalize pAt qs i = oi at *
          generalize pAt qs (N+1) = on at *
          generalize hP oi = xi at *
          generalize mP oi = yi at *
          cases on
          all_goals
            simp only [hP, mP] at c1 c2
            have q1 := cell_regrown c1
            have q2 := cell_regrown c2
            have q3 := cell_regrown c3
            have q4 := cell_regrown c4
            have q5 := cell_regrown zs
            clear c1 c2 c3 c4 zs
            refine wp_region_quiet_below (by kernel_rfl) (by kernel_rfl) ?_
            repeat (go_big_quiet_step (first | (go_at_call 24; with_reducible exact Calls.regrown_of (ka _ _))))
            refine wpQuiet_nil ?_
            intro _ hw'
            obtain ⟨⟨dq, osq⟩, hw''⟩ := hw'
            subst hw''
            have HU := Bx.mk (And.intro (HT.out.1.step (below_regrown w8 dq osq)) HT.out.2.1)
            generalize Go.Sort.grow (redrawn w8 dq) osq = wu at *
            clear q1 q2 q3 q4 q5 ka
            go_wp2
            exact ⟨⟨k + 1, g, c', g2, c2', qs, N+1, rfl, rfl, by rw [Int.natCast_succ], by omega, by omega, HU⟩, by simp only [intOf]; omega⟩
        | some p =>
          rw [hp] at c1d c2d hok
          simp only [hP, mP] at c1d c2d
          have HP := Bx.mk (And.intro hp hok)
          have hpL : p.L.length * 24 ≤ 225179981352000 := Nat.le_trans (Nat.mul_le_mul_right 24 (show p.L.length ≤ X + n + 2 by have := hok.2; omega)) HX24.out
          have kf := fork_any p.hb p.mb p.v p.L p.mo p.mv w2.drew (hok.1.below (Below.refl w2.heap.size w2).drew).h hpL
          have HPL := Bx.mk hpL
          clear hok hp hpL
          go_upto_region 11 with (fail)
          go_region_held3 (fun x => x.cell? ⟨hg, i, none⟩ = some (.pointer (some ⟨p.hb, 0, none⟩)) ∧ x.cell? ⟨rg, i, none⟩ = some (.pointer (some ⟨p.rb, 0, none⟩)))
            (first | exact ⟨c1d, c2d⟩ | assumption | (exact cellS2 (by assumption) (below1 _ _)))
            (first
              | (go_at_call 18; (with_reducible refine kf.mono ?_); rintro e w5 ⟨hb', mb', v', rfl, h5, hb5, hf5⟩; have hs5 := cellS2 ⟨c1d, c2d⟩ hb5; have H5 := Bx.mk (And.intro (HW.out.1.step hb5) (And.intro (CanH.mk0 (S0 := w2.heap.size) h5 hf5 HW.out.2.1.1 HW.out.2.1.2) (box_kept (w := w2.drew) HI2.out.2.2.1 (Turned.ofBelow (S := []) hb5) (by simp)))); have hz5 := H5.out.1.b.size; clear h5 hb5 hf5)
              | (refine step_append_keep rfl _ _ 43 rfl w.heap.size 28 iH (.pointer none) 1 8 Tryd.underlying43 HIH.out.1 HIH.out.2.1 HIH.out.2.2.1 HIH.out.2.2.2 rfl (by decide) hg (N + 1) hc (ps.map hP) (by simp [Act.eval, Act.put]) (H5.out.1.hrow1 HLP.out.1 _) ⟨w5.heap.size, 0, none⟩ 1 1 [.pointer (some ⟨hb', 0, none⟩)] (by simp [Act.eval, Act.put]) rfl (ptr_news w5 _ _) (ptr_one _) (by decide) hBm hB8 (Nat.le_trans hz5 (below1 w5 _).size) ?_; intro g c' w6 hown hd; have h6 := H5.out.1.grow1 HLP.out.1 hown hd; have hs6 := And.intro (cell_app (H5.out.1.hrow1 HLP.out.1 _) hown hd hi hs5.1) (h6.t.cell hs5.2 (by simpa using HI2.out.1.ne.symm)); have H6 := Bx.mk (And.intro h6.p (And.intro (H5.out.2.1.growG h6.t (hd_le hd)) (box_kept H5.out.2.2 h6.t (by simpa using HI2.out.2.2.2.1.1)))); have krf := rfork_any p.rb p.rv p.L p.mo p.mv w6 (by have := h6.p.ok i (by rw [HI2.out.2.1]; exact hi); rw [HP.out.1] at this; exact this.1.m) HPL.out; clear h6 hown hd)
              | (go_at_call 19; (with_reducible refine krf.mono ?_); rintro e w7 ⟨rb', rv', rfl, h7, hb7, hf7⟩; have hs7 := cellS2 hs6 hb7; have H7 := Bx.mk (And.intro (H6.out.1.step hb7) (And.intro (H6.out.2.1.step hb7) (And.intro (CanR.mk0 (S1 := w6.heap.size) h7 hf7 H6.out.1.hlt.1.2 H6.out.1.hlt.2.2) (box_kept H6.out.2.2 (Turned.ofBelow (S := []) hb7) (by simp))))); have hz7 := H7.out.1.b.size; clear h7 hb7 hf7)
              | (refine step_append_keep rfl _ _ 46 rfl w.heap.size 44 iR (.pointer none) 1 8 Tryd.underlying46 HIR.out.1 HIR.out.2.1 HIR.out.2.2.1 HIR.out.2.2.2 rfl (by decide) rg (N + 1) rc (ps.map mP) (by simp [Act.eval, Act.put]) (H7.out.1.mrow1 HLP.out.2 _) ⟨w7.heap.size, 0, none⟩ 1 1 [.pointer (some ⟨rb', 0, none⟩)] (by simp [Act.eval, Act.put]) rfl (ptr_news w7 _ _) (ptr_one _) (by decide) hBm hB8 (Nat.le_trans hz7 (below1 w7 _).size) ?_; intro g2 c2' w8 hown hd; have h8 := H7.out.1.grow2 HLP.out.2 hown hd; have hs8 := And.intro (h8.t.cell hs7.1 (by simpa using HI2.out.1.ne)) (cell_app (H7.out.1.mrow1 HLP.out.2 _) hown hd hi hs7.2); have H8 := Bx.mk (And.intro h8.p (And.intro (H7.out.2.1.growR h8.t (hd_le hd)) (And.intro (H7.out.2.2.1.growR h8.t (hd_le hd)) (box_kept H7.out.2.2.2 h8.t (by simpa using HI2.out.2.2.2.1.2.1))))); clear h8 hown hd))
          have hs26 : w2.heap.size ≤ w6.heap.size := by
            have h1 := H6.out.2.1.lo hb' (by simp [foot])
            have h2 := H6.out.2.1.h.footLt hb' (by simp [foot])
            omega
          have hfin := (H8.out.1.fin H8.out.2.1 H8.out.2.2.1 HW.out.2.2 (by have := HI2.out.1.b.size; exact this) hs26 H6.out.2.1.h.footLt HP.out.2.2).more (show X + k ≤ X + (k + 1) by omega)
          obtain ⟨qs, hqs⟩ : ∃ qs, ps ++ [some ⟨hb', mb', v', rb', rv', p.L, p.mo, p.mv⟩] = qs := ⟨_, rfl⟩
          have HT : Bx (PlIn w w8 g c' (qs.map hP) g2 c2' (qs.map mP) qs (X + (k + 1)) ∧ qs.length = N + 1 + 1 ∧ w8.heap[B]? = some (.cells (opBox 4 y1 y2 r s y5a y5n y5c) 48 (0, 0))) := ⟨by rw [← hqs, List.map_append, List.map_append]; exact hfin, by rw [← hqs, List.length_append, HI2.out.2.1]; rfl, H8.out.2.2.2⟩
          have hN1 : (N : Int) + 1 < (N : Int) + 1 + 1 := by omega
          clear hfin hqs hs26 z0 hs5 hs6 hs7 hs8 c1d c2d kf krf hsz2 hz5 hz7 hB8 hBm HLP
          go_wp2_with fail
          obtain ⟨c3, c4⟩ := HT.out.1.cells (i := i) (by rw [HT.out.2.1]; omega)
          obtain ⟨c1, c2⟩ := HT.out.1.cells (i := (N+1)) (by rw [HT.out.2.1]; omega)
          have zs : w8.cell? ⟨B, 4, none⟩ = some (strV s) := cells_at HT.out.2.2 4 _ rfl
          have hXk : (X + (k + 1)) * 24 ≤ 225179981352000 := Nat.le_trans (Nat.mul_le_mul_right 24 (show X + (k + 1) ≤ X + n + 2 by omega)) HX24.out
          have hoki := HT.out.1.ok i (by rw [HT.out.2.1]; omega)
          have ka0 : ∀ d os, okO (Go.Sort.grow (redrawn w8 d) os) (X + (k + 1)) (pAt qs i) := fun d os => hoki.kept (S := []) (Turned.ofBelow (below_regrown w8 d os)) (by simp)
          have ka := fun d os => alike_o (pAt qs i) (X + (k + 1)) s (Go.Sort.grow (redrawn w8 d) os) (ka0 d os) HSR.out hXk
          clear hXk hoki ka0
          generalize pAt qs i = oi at *
          generalize pAt qs (N+1) = on at *
          generalize hP oi = xi at *
          generalize mP oi = yi at *
          cases on
          all_goals
            simp only [hP, mP] at c1 c2
            have q1 := cell_regrown c1
            have q2 := cell_regrown c2
            have q3 := cell_regrown c3
            have q4 := cell_regrown c4
            have q5 := cell_regrown zs
            clear c1 c2 c3 c4 zs
            refine wp_region_quiet_below (by kernel_rfl) (by kernel_rfl) ?_
            repeat (go_big_quiet_step (first | (go_at_call 24; with_reducible exact Calls.regrown_of (ka _ _))))
            refine wpQuiet_nil ?_
            intro _ hw'
            obtain ⟨⟨dq, osq⟩, hw''⟩ := hw'
            subst hw''
            have HU := Bx.mk (And.intro (HT.out.1.step (below_regrown w8 dq osq)) HT.out.2.1)
            generalize Go.Sort.grow (redrawn w8 dq) osq = wu at *
            clear q1 q2 q3 q4 q5 ka
            go_wp2
            exact ⟨⟨k + 1, g, c', g2, c2', qs, N+1, rfl, rfl, by rw [Int.natCast_succ], by omega, by omega, HU⟩, by simp only [intOf]; omega⟩
      by_cases k5 : K = 5
      · subst k5
        have HLP : Bx ((ps.map hP).length = N + 1 ∧ (ps.map mP).length = N + 1) := ⟨by rw [List.length_map]; exact HI2.out.2.1, by rw [List.length_map]; exact HI2.out.2.1⟩
        have hB8 : (N + 1 + 1) * 8 ≤ 140737488355328 := by omega
        have hBm : N + 1 + 1 ≤ maxLen := by unfold maxLen; omega
        have hsz2 := HI2.out.1.b.size
        have z2 : w2.drew.cell? ⟨B, 2, none⟩ = some (.bool y2) := cells_at (w := w2.drew) HI2.out.2.2.1 2 _ rfl
        have HW := Bx.mk (And.intro (HI2.out.1.step (Below.refl w2.heap.size w2).drew) (And.intro (show hg < w2.heap.size ∧ rg < w2.heap.size from ⟨HI2.out.1.hlt.1.2, HI2.out.1.hlt.2.2⟩) (show ∀ j, j < ps.length → ∀ x ∈ footO (pAt ps j), x < w2.heap.size from fun j hj => (HI2.out.1.ok j hj).lt)))
        have kn5 := fun w => new_heap y2 w
        have kr5 := fun w => rnew_any y2 w
        clear k4
        go_upto_region 13 with (fail)
        go_region_held3 (fun x => x.cell? ⟨B, 2, none⟩ = some (.bool y2))
          (first | exact z2 | assumption | (exact cellS (by assumption) (below1 _ _)))
          (first
            | (go_at_call 15; (with_reducible refine (kn5 _).mono ?_); rintro e w5 ⟨hb', mb', rfl, h5, hb5, h5a, h5b⟩; have hs5 := cellS z2 hb5; have H5 := Bx.mk (And.intro (HW.out.1.step hb5) (And.intro (CanH.mk0 (S0 := w2.heap.size) h5 (fun x hx => by rcases foot_list rfl hx with h | h; (rw [h]; exact h5a); (rw [h]; exact h5b)) HW.out.2.1.1 HW.out.2.1.2) (box_kept (w := w2.drew) HI2.out.2.2.1 (Turned.ofBelow (S := []) hb5) (by simp)))); have hz5 := H5.out.1.b.size; clear h5 hb5 h5a h5b)
            | (refine step_append_keep rfl _ _ 43 rfl w.heap.size 28 iH (.pointer none) 1 8 Tryd.underlying43 HIH.out.1 HIH.out.2.1 HIH.out.2.2.1 HIH.out.2.2.2 rfl (by decide) hg (N + 1) hc (ps.map hP) (by simp [Act.eval, Act.put]) (H5.out.1.hrow1 HLP.out.1 _) ⟨w5.heap.size, 0, none⟩ 1 1 [.pointer (some ⟨hb', 0, none⟩)] (by simp [Act.eval, Act.put]) rfl (ptr_news w5 _ _) (ptr_one _) (by decide) hBm hB8 (Nat.le_trans hz5 (below1 w5 _).size) ?_; intro g c' w6 hown hd; have h6 := H5.out.1.grow1 HLP.out.1 hown hd; have hs6 := h6.t.cell hs5 (by simpa using HI2.out.2.2.2.1.1); have H6 := Bx.mk (And.intro h6.p (And.intro (H5.out.2.1.growG h6.t (hd_le hd)) (box_kept H5.out.2.2 h6.t (by simpa using HI2.out.2.2.2.1.1)))); clear h6 hown hd)
            | (go_at_call 16; (with_reducible refine (kr5 _).mono ?_); rintro e w7 ⟨rb', rfl, h7, hb7, h7a⟩; have hs7 := cellS hs6 hb7; have H7 := Bx.mk (And.intro (H6.out.1.step hb7) (And.intro (H6.out.2.1.step hb7) (And.intro (CanR.mk0 (S1 := w6.heap.size) h7 (fun x hx => by rw [rfoot_list rfl hx]; exact h7a) H6.out.1.hlt.1.2 H6.out.1.hlt.2.2) (box_kept H6.out.2.2 (Turned.ofBelow (S := []) hb7) (by simp))))); have hz7 := H7.out.1.b.size; clear h7 hb7 h7a)
            | (refine step_append_keep rfl _ _ 46 rfl w.heap.size 44 iR (.pointer none) 1 8 Tryd.underlying46 HIR.out.1 HIR.out.2.1 HIR.out.2.2.1 HIR.out.2.2.2 rfl (by decide) rg (N + 1) rc (ps.map mP) (by simp [Act.eval, Act.put]) (H7.out.1.mrow1 HLP.out.2 _) ⟨w7.heap.size, 0, none⟩ 1 1 [.pointer (some ⟨rb', 0, none⟩)] (by simp [Act.eval, Act.put]) rfl (ptr_news w7 _ _) (ptr_one _) (by decide) hBm hB8 (Nat.le_trans hz7 (below1 w7 _).size) ?_; intro g2 c2' w8 hown hd; have h8 := H7.out.1.grow2 HLP.out.2 hown hd; have hs8 := h8.t.cell hs7 (by simpa using HI2.out.2.2.2.1.2.1); have H8 := Bx.mk (And.intro h8.p (And.intro (H7.out.2.1.growR h8.t (hd_le hd)) (And.intro (H7.out.2.2.1.growR h8.t (hd_le hd)) (box_kept H7.out.2.2.2 h8.t (by simpa using HI2.out.2.2.2.1.2.1))))); clear h8 hown hd))
        have hs26 : w2.heap.size ≤ w6.heap.size := by
          have h1 := H6.out.2.1.lo hb' (by simp [foot])
          have h2 := H6.out.2.1.h.footLt hb' (by simp [foot])
          omega
        have hfin := (H8.out.1.fin H8.out.2.1 H8.out.2.2.1 HW.out.2.2 (by have := HI2.out.1.b.size; exact this) hs26 H6.out.2.1.h.footLt (Nat.zero_le _)).more (show X + k ≤ X + (k + 1) by omega)
        obtain ⟨qs, hqs⟩ : ∃ qs, ps ++ [some ⟨hb', mb', .slice none 0 0, rb', .slice none 0 0, [], y2, 0⟩] = qs := ⟨_, rfl⟩
        have HT : Bx (PlIn w w8 g c' (qs.map hP) g2 c2' (qs.map mP) qs (X + (k + 1)) ∧ qs.length = N + 1 + 1 ∧ w8.heap[B]? = some (.cells (opBox 5 y1 y2 r s y5a y5n y5c) 48 (0, 0))) := ⟨by rw [← hqs, List.map_append, List.map_append]; exact hfin, by rw [← hqs, List.length_append, HI2.out.2.1]; rfl, H8.out.2.2.2⟩
        have hN1 : (N : Int) + 1 < (N : Int) + 1 + 1 := by omega
        clear hfin hqs hs26 z0 hs5 hs6 hs7 hs8 z2 kn5 kr5 hsz2 hz5 hz7 hB8 hBm HLP
        go_wp2_with fail
        obtain ⟨c3, c4⟩ := HT.out.1.cells (i := i) (by rw [HT.out.2.1]; omega)
        obtain ⟨c1, c2⟩ := HT.out.1.cells (i := (N+1)) (by rw [HT.out.2.1]; omega)
        have zs : w8.cell? ⟨B, 4, none⟩ = some (strV s) := cells_at HT.out.2.2 4 _ rfl
        have hXk : (X + (k + 1)) * 24 ≤ 225179981352000 := Nat.le_trans (Nat.mul_le_mul_right 24 (show X + (k + 1) ≤ X + n + 2 by omega)) HX24.out
        have hoki := HT.out.1.ok i (by rw [HT.out.2.1]; omega)
        have ka0 : ∀ d os, okO (Go.Sort.grow (redrawn w8 d) os) (X + (k + 1)) (pAt qs i) := fun d os => hoki.kept (S := []) (Turned.ofBelow (below_regrown w8 d os)) (by simp)
        have ka := fun d os => alike_o (pAt qs i) (X + (k + 1)) s (Go.Sort.grow (redrawn w8 d) os) (ka0 d os) HSR.out hXk
        clear hXk hoki ka0
        generalize pAt qs i = oi at *
        generalize pAt qs (N+1) = on at *
        generalize hP oi = xi at *
        generalize mP oi = yi at *
        cases on
        all_goals
          simp only [hP, mP] at c1 c2
          have q1 := cell_regrown c1
          have q2 := cell_regrown c2
          have q3 := cell_regrown c3
          have q4 := cell_regrown c4
          have q5 := cell_regrown zs
          clear c1 c2 c3 c4 zs
          refine wp_region_quiet_below (by kernel_rfl) (by kernel_rfl) ?_
          repeat (go_big_quiet_step (first | (go_at_call 24; with_reducible exact Calls.regrown_of (ka _ _))))
          refine wpQuiet_nil ?_
          intro _ hw'
          obtain ⟨⟨dq, osq⟩, hw''⟩ := hw'
          subst hw''
          have HU := Bx.mk (And.intro (HT.out.1.step (below_regrown w8 dq osq)) HT.out.2.1)
          generalize Go.Sort.grow (redrawn w8 dq) osq = wu at *
          clear q1 q2 q3 q4 q5 ka
          go_wp2
          exact ⟨⟨k + 1, g, c', g2, c2', qs, N+1, rfl, rfl, by rw [Int.natCast_succ], by omega, by omega, HU⟩, by simp only [intOf]; omega⟩
      by_cases k6 : K = 6
      · subst k6
        have HLP : Bx ((ps.map hP).length = N + 1 ∧ (ps.map mP).length = N + 1) := ⟨by rw [List.length_map]; exact HI2.out.2.1, by rw [List.length_map]; exact HI2.out.2.1⟩
        have hB8 : (N + 1 + 1) * 8 ≤ 140737488355328 := by omega
        have hBm : N + 1 + 1 ≤ maxLen := by unfold maxLen; omega
        have z2 : w2.cell? ⟨B, 2, none⟩ = some (.bool y2) := cells_at HI2.out.2.2.1 2 _ rfl
        have z5 : w2.cell? ⟨B, 5, none⟩ = some (.slice y5a y5n y5c) := cells_at HI2.out.2.2.1 5 _ rfl
        obtain ⟨Lk, he1, he2, he3, he4⟩ := HXL.out
        have hLkn := he1.len
        have hb24 : (y5n + 1) * 24 ≤ 225179981352000 := Nat.le_trans (Nat.mul_le_mul_right 24 (show y5n + 1 ≤ X + n + 2 by omega)) HX24.out
        have hb60 : y5n ≤ 1152921504606846976 := by
          have h1 := HX24.out
          omega
        have kb := build_loop y2 y5a y5n y5c Lk w2 (he1.below HI2.out.1.b) he2 hb60 (by omega) he3
        have HE := Bx.mk (And.intro he1 (And.intro hLkn (And.intro he4 (And.intro hb24 (show ∀ j, j < ps.length → ∀ x ∈ footO (pAt ps j), x < w2.heap.size from fun j hj => (HI2.out.1.ok j hj).lt)))))
        clear k4 k5 he1 he2 he3 he4 hLkn hb24 hb60
        go_wp2_with fail
        refine kb.mono ?_
        intro e w5 hbl
        rcases hbl with ⟨k1, hk1, hN1, hf1, rfl, hb5⟩ | ⟨hNo, hb2, mb2, v2, rfl, hB2, hb5, hf2⟩
        · have krb := rbuild_any y2 y5a y5n y5c Lk w5 (HE.out.1.below (HI2.out.1.b.trans (hb5.mono HI2.out.1.b.size))) HE.out.2.2.2.1
          have HK1 := Bx.mk (And.intro hk1 (And.intro hN1 hf1))
          have H5 := Bx.mk (And.intro (HI2.out.1.step hb5) ((hb5.block B (block_lt HI2.out.2.2.1)).trans HI2.out.2.2.1))
          have z2' := cellS z2 hb5
          have z5' := cellS z5 hb5
          clear kb hk1 hN1 hf1 hb5 z0 z2 z5
          go_wp2_with fail
          refine krb.mono ?_
          intro e w7 hbl
          rcases hbl with ⟨k2, hk2, hN2, hf2, rfl, hb7⟩ | ⟨hNo, _⟩
          · have hkk : k2 = k1 := known_same (by rw [HE.out.2.1]; exact hk2) (by rw [HE.out.2.1]; exact HK1.out.1) hN2 HK1.out.2.1 hf2 HK1.out.2.2
            subst hkk
            have hn7 := hb7.trans ((below1 w7 (.cells #[.int .i64 5, .int .i64 0, .int .i64 k2, .bool false, .bool true] 55)).mono hb7.size)
            have H7 := Bx.mk (And.intro (H5.out.1.step hn7) ((hn7.block B (block_lt H5.out.2)).trans H5.out.2))
            have hGl := HR.out.2.2.below H7.out.1.b HR.out.2.2.lt
            have ksm := same_I k2 5 _ hGl (by decide)
            clear krb hk2 hN2 hf2 hb7 hn7 H5 hGl z2' z5'
            go_wp2_with (first
              | (go_at_call 22; refine ksm.mono ?_; rintro e w8 ⟨rfl, hb8⟩; have H8 := Bx.mk (And.intro (H7.out.1.step hb8) ((hb8.block B (block_lt H7.out.2)).trans H7.out.2)); have hz8 := H8.out.1.b.size; clear hb8)
              | (at_builtin; refine wpList_append_keep rfl _ _ 43 rfl w.heap.size 28 iH (.pointer none) 1 8 Tryd.underlying43 HIH.out.1 HIH.out.2.1 HIH.out.2.2.1 HIH.out.2.2.2 rfl (by decide) hg (N + 1) hc (ps.map hP) rfl (H8.out.1.hrow1 HLP.out.1 _) ⟨w8.heap.size, 0, none⟩ 1 1 [.pointer none] rfl rfl (ptr_news w8 _ _) (ptr_one _) (by decide) hBm hB8 (Nat.le_trans hz8 (below1 w8 _).size) ?_; intro g c' w9 hown hd; have h9 := H8.out.1.grow1 HLP.out.1 hown hd; have H9 := Bx.mk (And.intro h9.p (box_kept H8.out.2 h9.t (by simpa using HI2.out.2.2.2.1.1))); have hz9 := h9.p.b.size; clear h9 hown hd)
              | (at_builtin; refine wpList_append_keep rfl _ _ 46 rfl w.heap.size 44 iR (.pointer none) 1 8 Tryd.underlying46 HIR.out.1 HIR.out.2.1 HIR.out.2.2.1 HIR.out.2.2.2 rfl (by decide) rg (N + 1) rc (ps.map mP) rfl (H9.out.1.mrow1 HLP.out.2 _) ⟨w9.heap.size, 0, none⟩ 1 1 [.pointer none] rfl rfl (ptr_news w9 _ _) (ptr_one _) (by decide) hBm hB8 (Nat.le_trans hz9 (below1 w9 _).size) ?_; intro g2 c2' w10 hown hd; have h10 := H9.out.1.grow2 HLP.out.2 hown hd; have H10 := Bx.mk (And.intro h10.p (box_kept H9.out.2 h10.t (by simpa using HI2.out.2.2.2.1.2.1))); clear h10 hown hd))
            have hfin := (H10.out.1.add none trivial (fun x hx => by cases hx)).more (show X + k ≤ X + (k + 1) by omega)
            obtain ⟨qs, hqs⟩ : ∃ qs, ps ++ [none] = qs := ⟨_, rfl⟩
            have HT : Bx (PlIn w w10 g c' (qs.map hP) g2 c2' (qs.map mP) qs (X + (k + 1)) ∧ qs.length = N + 1 + 1 ∧ w10.heap[B]? = some (.cells (opBox 6 y1 y2 r s y5a y5n y5c) 48 (0, 0))) := ⟨by rw [← hqs, List.map_append, List.map_append]; exact hfin, by rw [← hqs, List.length_append, HI2.out.2.1]; rfl, H10.out.2⟩
            have hN1 : (N : Int) + 1 < (N : Int) + 1 + 1 := by omega
            clear hfin hqs ksm hz8 hz9 hB8 hBm HLP
            obtain ⟨c3, c4⟩ := HT.out.1.cells (i := i) (by rw [HT.out.2.1]; omega)
            obtain ⟨c1, c2⟩ := HT.out.1.cells (i := (N+1)) (by rw [HT.out.2.1]; omega)
            have zs : w10.cell? ⟨B, 4, none⟩ = some (strV s) := cells_at HT.out.2.2 4 _ rfl
            have hXk : (X + (k + 1)) * 24 ≤ 225179981352000 := Nat.le_trans (Nat.mul_le_mul_right 24 (show X + (k + 1) ≤ X + n + 2 by omega)) HX24.out
            have hoki := HT.out.1.ok i (by rw [HT.out.2.1]; omega)
            have ka0 : ∀ d os, okO (Go.Sort.grow (redrawn w10 d) os) (X + (k + 1)) (pAt qs i) := fun d os => hoki.kept (S := []) (Turned.ofBelow (below_regrown w10 d os)) (by simp)
            have ka := fun d os => alike_o (pAt qs i) (X + (k + 1)) s (Go.Sort.grow (redrawn w10 d) os) (ka0 d os) HSR.out hXk
            clear hXk hoki ka0
            generalize pAt qs i = oi at *
            generalize pAt qs (N+1) = on at *
            generalize hP oi = xi at *
            generalize mP oi = yi at *
            cases on
            all_goals
              simp only [hP, mP] at c1 c2
              have q1 := cell_regrown c1
              have q2 := cell_regrown c2
              have q3 := cell_regrown c3
              have q4 := cell_regrown c4
              have q5 := cell_regrown zs
              clear c1 c2 c3 c4 zs
              refine wp_region_quiet_below (by kernel_rfl) (by kernel_rfl) ?_
              repeat (go_big_quiet_step (first | (go_at_call 24; with_reducible exact Calls.regrown_of (ka _ _))))
              refine wpQuiet_nil ?_
              intro _ hw'
              obtain ⟨⟨dq, osq⟩, hw''⟩ := hw'
              subst hw''
              have HU := Bx.mk (And.intro (HT.out.1.step (below_regrown w10 dq osq)) HT.out.2.1)
              generalize Go.Sort.grow (redrawn w10 dq) osq = wu at *
              clear q1 q2 q3 q4 q5 ka
              go_wp2
              exact ⟨⟨k + 1, g, c', g2, c2', qs, N+1, rfl, rfl, by rw [Int.natCast_succ], by omega, by omega, HU⟩, by simp only [intOf]; omega⟩
          · exact (known_all (by rw [HE.out.2.1]; exact HK1.out.1) hNo HK1.out.2.2).elim
        · have krb := rbuild_any y2 y5a y5n y5c Lk w5 (HE.out.1.below (HI2.out.1.b.trans (hb5.mono HI2.out.1.b.size))) HE.out.2.2.2.1
          have HNo := Bx.mk hNo
          have hbl2 := bldH_len y2 Lk
          have H5 := Bx.mk (And.intro (HI2.out.1.step hb5) (And.intro (CanH.mk0 (g := hg) (r := rg) (S0 := w2.heap.size) hB2 hf2 HI2.out.1.hlt.1.2 HI2.out.1.hlt.2.2) ((hb5.block B (block_lt HI2.out.2.2.1)).trans HI2.out.2.2.1)))
          have z2' := cellS z2 hb5
          have z5' := cellS z5 hb5
          have hs25 := hb5.size
          clear kb hNo hb5 hB2 hf2 z0 z2 z5
          go_wp2_with fail
          refine krb.mono ?_
          intro e w7 hbl
          rcases hbl with ⟨k2, hk2, hN2, hf2, _⟩ | ⟨_, rb2, rv2, rfl, hM2, hb7, hrf2⟩
          · exact (known_all (by rw [HE.out.2.1]; exact hk2) HNo.out hf2).elim
          have hn7 := below1 w7 (.cells #[.int .i64 0, .int .i64 0, .int .i64 0, .bool false, .bool false] 55)
          have hr7 := (CanR.mk0 (g := hg) (r := rg) (S1 := w5.heap.size) hM2 hrf2 (by have := HI2.out.1.hlt; omega) (by have := HI2.out.1.hlt; omega)).step hn7
          have H7 := Bx.mk (And.intro ((H5.out.1.step hb7).step hn7) (And.intro ((H5.out.2.1.step hb7).step hn7) (And.intro hr7 (box_kept (box_kept H5.out.2.2 (Turned.ofBelow (S := []) hb7) (by simp)) (Turned.ofBelow (S := []) hn7) (by simp)))))
          have ksm := same_nil (w7.alloc (.cells #[.int .i64 0, .int .i64 0, .int .i64 0, .bool false, .bool false] 55))
          have hf5 := H5.out.2.1.h.footLt
          have HF5 := Bx.mk hf5
          clear krb hM2 hb7 hrf2 hn7 hr7 hf5 H5 z2' z5'
          go_wp2_with (first
            | (go_at_call 22; refine ksm.mono ?_; rintro e w8 ⟨rfl, hb8⟩; have H8 := Bx.mk (And.intro (H7.out.1.step hb8) (And.intro (H7.out.2.1.step hb8) (And.intro (H7.out.2.2.1.step hb8) (box_kept H7.out.2.2.2 (Turned.ofBelow (S := []) hb8) (by simp))))); have hz8 := H8.out.1.b.size; clear hb8)
            | (at_builtin; refine wpList_append_keep rfl _ _ 43 rfl w.heap.size 28 iH (.pointer none) 1 8 Tryd.underlying43 HIH.out.1 HIH.out.2.1 HIH.out.2.2.1 HIH.out.2.2.2 rfl (by decide) hg (N + 1) hc (ps.map hP) rfl (H8.out.1.hrow1 HLP.out.1 _) ⟨w8.heap.size, 0, none⟩ 1 1 [.pointer (some ⟨hb2, 0, none⟩)] rfl rfl (ptr_news w8 _ _) (ptr_one _) (by decide) hBm hB8 (Nat.le_trans hz8 (below1 w8 _).size) ?_; intro g c' w9 hown hd; have h9 := H8.out.1.grow1 HLP.out.1 hown hd; have H9 := Bx.mk (And.intro h9.p (And.intro (H8.out.2.1.growG h9.t (hd_le hd)) (And.intro (H8.out.2.2.1.growG h9.t (hd_le hd)) (box_kept H8.out.2.2.2 h9.t (by simpa using HI2.out.2.2.2.1.1))))); have hz9 := h9.p.b.size; clear h9 hown hd)
            | (at_builtin; refine wpList_append_keep rfl _ _ 46 rfl w.heap.size 44 iR (.pointer none) 1 8 Tryd.underlying46 HIR.out.1 HIR.out.2.1 HIR.out.2.2.1 HIR.out.2.2.2 rfl (by decide) rg (N + 1) rc (ps.map mP) rfl (H9.out.1.mrow1 HLP.out.2 _) ⟨w9.heap.size, 0, none⟩ 1 1 [.pointer (some ⟨rb2, 0, none⟩)] rfl rfl (ptr_news w9 _ _) (ptr_one _) (by decide) hBm hB8 (Nat.le_trans hz9 (below1 w9 _).size) ?_; intro g2 c2' w10 hown hd; have h10 := H9.out.1.grow2 HLP.out.2 hown hd; have H10 := Bx.mk (And.intro h10.p (And.intro (H9.out.2.1.growR h10.t (hd_le hd)) (And.intro (H9.out.2.2.1.growR h10.t (hd_le hd)) (box_kept H9.out.2.2.2 h10.t (by simpa using HI2.out.2.2.2.1.2.1))))); clear h10 hown hd))
          have hfin := (H10.out.1.fin H10.out.2.1 H10.out.2.2.1 HE.out.2.2.2.2 HI2.out.1.b.size hs25 HF5.out (by rw [hbl2, HE.out.2.1]; have := HE.out.2.2.1; omega)).more (show X + k ≤ X + (k + 1) by omega)
          clear hbl2
          obtain ⟨qs, hqs⟩ : ∃ qs, ps ++ [some ⟨hb2, mb2, v2, rb2, rv2, (bldH y2 Lk).1, y2, (bldH y2 Lk).2⟩] = qs := ⟨_, rfl⟩
          have HT : Bx (PlIn w w10 g c' (qs.map hP) g2 c2' (qs.map mP) qs (X + (k + 1)) ∧ qs.length = N + 1 + 1 ∧ w10.heap[B]? = some (.cells (opBox 6 y1 y2 r s y5a y5n y5c) 48 (0, 0))) := ⟨by rw [← hqs, List.map_append, List.map_append]; exact hfin, by rw [← hqs, List.length_append, HI2.out.2.1]; rfl, H10.out.2.2.2⟩
          have hN1 : (N : Int) + 1 < (N : Int) + 1 + 1 := by omega
          clear hfin hqs ksm hz8 hz9 hs25 hB8 hBm HLP
          obtain ⟨c3, c4⟩ := HT.out.1.cells (i := i) (by rw [HT.out.2.1]; omega)
          obtain ⟨c1, c2⟩ := HT.out.1.cells (i := (N+1)) (by rw [HT.out.2.1]; omega)
          have zs : w10.cell? ⟨B, 4, none⟩ = some (strV s) := cells_at HT.out.2.2 4 _ rfl
          have hXk : (X + (k + 1)) * 24 ≤ 225179981352000 := Nat.le_trans (Nat.mul_le_mul_right 24 (show X + (k + 1) ≤ X + n + 2 by omega)) HX24.out
          have hoki := HT.out.1.ok i (by rw [HT.out.2.1]; omega)
          have ka0 : ∀ d os, okO (Go.Sort.grow (redrawn w10 d) os) (X + (k + 1)) (pAt qs i) := fun d os => hoki.kept (S := []) (Turned.ofBelow (below_regrown w10 d os)) (by simp)
          have ka := fun d os => alike_o (pAt qs i) (X + (k + 1)) s (Go.Sort.grow (redrawn w10 d) os) (ka0 d os) HSR.out hXk
          clear hXk hoki ka0
          generalize pAt qs i = oi at *
          generalize pAt qs (N+1) = on at *
          generalize hP oi = xi at *
          generalize mP oi = yi at *
          cases on
          all_goals
            simp only [hP, mP] at c1 c2
            have q1 := cell_regrown c1
            have q2 := cell_regrown c2
            have q3 := cell_regrown c3
            have q4 := cell_regrown c4
            have q5 := cell_regrown zs
            clear c1 c2 c3 c4 zs
            refine wp_region_quiet_below (by kernel_rfl) (by kernel_rfl) ?_
            repeat (go_big_quiet_step (first | (go_at_call 24; with_reducible exact Calls.regrown_of (ka _ _))))
            refine wpQuiet_nil ?_
            intro _ hw'
            obtain ⟨⟨dq, osq⟩, hw''⟩ := hw'
            subst hw''
            have HU := Bx.mk (And.intro (HT.out.1.step (below_regrown w10 dq osq)) HT.out.2.1)
            generalize Go.Sort.grow (redrawn w10 dq) osq = wu at *
            clear q1 q2 q3 q4 q5 ka
            go_wp2
            exact ⟨⟨k + 1, g, c', g2, c2', qs, N+1, rfl, rfl, by rw [Int.natCast_succ], by omega, by omega, HU⟩, by simp only [intOf]; omega⟩
      by_cases k7 : K = 7
      · subst k7
        have HLP : Bx ((ps.map hP).length = N + 1 ∧ (ps.map mP).length = N + 1) := ⟨by rw [List.length_map]; exact HI2.out.2.1, by rw [List.length_map]; exact HI2.out.2.1⟩
        have hB8 : (N + 1 + 1) * 8 ≤ 140737488355328 := by omega
        have hBm : N + 1 + 1 ≤ maxLen := by unfold maxLen; omega
        have hsz2 := HI2.out.1.b.size
        clear k4 k5 k6
        go_wp2_with (first
          | (at_builtin; refine wpList_append_keep rfl _ _ 43 rfl w.heap.size 28 iH (.pointer none) 1 8 Tryd.underlying43 HIH.out.1 HIH.out.2.1 HIH.out.2.2.1 HIH.out.2.2.2 rfl (by decide) hg (N + 1) hc (ps.map hP) rfl (HI2.out.1.hrow1 HLP.out.1 _) ⟨w2.heap.size, 0, none⟩ 1 1 [.pointer none] rfl rfl (ptr_news w2 _ _) (ptr_one _) (by decide) hBm hB8 (Nat.le_trans hsz2 (below1 w2 _).size) ?_; intro g c' w5 hown hd; have H5 := Bx.mk (HI2.out.1.grow1 HLP.out.1 hown hd); have hsz5 := H5.out.p.b.size; clear hown hd)
          | (at_builtin; refine wpList_append_keep rfl _ _ 46 rfl w.heap.size 44 iR (.pointer none) 1 8 Tryd.underlying46 HIR.out.1 HIR.out.2.1 HIR.out.2.2.1 HIR.out.2.2.2 rfl (by decide) rg (N + 1) rc (ps.map mP) rfl (H5.out.p.mrow1 HLP.out.2 _) ⟨w5.heap.size, 0, none⟩ 1 1 [.pointer none] rfl rfl (ptr_news w5 _ _) (ptr_one _) (by decide) hBm hB8 (Nat.le_trans hsz5 (below1 w5 _).size) ?_; intro g2 c2' w6 hown hd; have H6 := Bx.mk (H5.out.p.grow2 HLP.out.2 hown hd); clear hown hd))
        have hfin := (H6.out.p.add none trivial (fun x hx => by cases hx)).more (show X + k ≤ X + (k + 1) by omega)
        have hbk : w6.heap[B]? = some (.cells (opBox 7 y1 y2 r s y5a y5n y5c) 48 (0, 0)) := ((H6.out.t.block B (Nat.lt_of_lt_of_le (block_lt HI2.out.2.2.1) H5.out.t.size) (by simpa using HI2.out.2.2.2.1.2.1)).trans (H5.out.t.block B (block_lt HI2.out.2.2.1) (by simpa using HI2.out.2.2.2.1.1))).trans HI2.out.2.2.1
        obtain ⟨qs, hqs⟩ : ∃ qs, ps ++ [none] = qs := ⟨_, rfl⟩
        have HT : Bx (PlIn w w6 g c' (qs.map hP) g2 c2' (qs.map mP) qs (X + (k + 1)) ∧ qs.length = N + 1 + 1 ∧ w6.heap[B]? = some (.cells (opBox 7 y1 y2 r s y5a y5n y5c) 48 (0, 0))) := ⟨by rw [← hqs, List.map_append, List.map_append]; exact hfin, by rw [← hqs, List.length_append, HI2.out.2.1]; rfl, hbk⟩
        clear hfin hbk hqs H5 H6 HI2 z0 hsz2 hsz5 hB8 hBm HLP
        have hN1 : (N : Int) + 1 < (N : Int) + 1 + 1 := by omega
        obtain ⟨c3, c4⟩ := HT.out.1.cells (i := i) (by rw [HT.out.2.1]; omega)
        obtain ⟨c1, c2⟩ := HT.out.1.cells (i := (N+1)) (by rw [HT.out.2.1]; omega)
        have zs : w6.cell? ⟨B, 4, none⟩ = some (strV s) := cells_at HT.out.2.2 4 _ rfl
        have hXk : (X + (k + 1)) * 24 ≤ 225179981352000 := Nat.le_trans (Nat.mul_le_mul_right 24 (show X + (k + 1) ≤ X + n + 2 by omega)) HX24.out
        have hoki := HT.out.1.ok i (by rw [HT.out.2.1]; omega)
        have ka0 : ∀ d os, okO (Go.Sort.grow (redrawn w6 d) os) (X + (k + 1)) (pAt qs i) := fun d os => hoki.kept (S := []) (Turned.ofBelow (below_regrown w6 d os)) (by simp)
        have ka := fun d os => alike_o (pAt qs i) (X + (k + 1)) s (Go.Sort.grow (redrawn w6 d) os) (ka0 d os) HSR.out hXk
        clear hXk hoki ka0
        generalize pAt qs i = oi at *
        generalize pAt qs (N+1) = on at *
        generalize hP oi = xi at *
        generalize mP oi = yi at *
        cases on
        all_goals
          simp only [hP, mP] at c1 c2
          have q1 := cell_regrown c1
          have q2 := cell_regrown c2
          have q3 := cell_regrown c3
          have q4 := cell_regrown c4
          have q5 := cell_regrown zs
          clear c1 c2 c3 c4 zs
          refine wp_region_quiet_below (by kernel_rfl) (by kernel_rfl) ?_
          repeat (go_big_quiet_step (first | (go_at_call 24; with_reducible exact Calls.regrown_of (ka _ _))))
          refine wpQuiet_nil ?_
          intro _ hw'
          obtain ⟨⟨dq, osq⟩, hw''⟩ := hw'
          subst hw''
          have HU := Bx.mk (And.intro (HT.out.1.step (below_regrown w6 dq osq)) HT.out.2.1)
          generalize Go.Sort.grow (redrawn w6 dq) osq = wu at *
          clear q1 q2 q3 q4 q5 ka
          go_wp2
          exact ⟨⟨k + 1, g, c', g2, c2', qs, N+1, rfl, rfl, by rw [Int.natCast_succ], by omega, by omega, HU⟩, by simp only [intOf]; omega⟩
      have d4 : (K == 4) = false := by simpa using k4
      have d5 : (K == 5) = false := by simpa using k5
      have d6 : (K == 6) = false := by simpa using k6
      have d7 : (K == 7) = false := by simpa using k7
      clear k4 k5 k6 k7
      obtain ⟨c1, c2⟩ := HI2.out.1.cells (i := i) (by rw [HI2.out.2.1]; exact hi)
      have hok := HI2.out.1.ok i (by rw [HI2.out.2.1]; exact hi)
      have z1 : w2.cell? ⟨B, 1, none⟩ = some (.int .i64 y1) := cells_at HI2.out.2.2.1 1 _ rfl
      have z2 : w2.cell? ⟨B, 2, none⟩ = some (.bool y2) := cells_at HI2.out.2.2.1 2 _ rfl
      have z3 : w2.cell? ⟨B, 3, none⟩ = some (.int .i64 r) := cells_at HI2.out.2.2.1 3 _ rfl
      have z4 : w2.cell? ⟨B, 4, none⟩ = some (strV s) := cells_at HI2.out.2.2.1 4 _ rfl
      have z5 : w2.cell? ⟨B, 5, none⟩ = some (.slice y5a y5n y5c) := cells_at HI2.out.2.2.1 5 _ rfl
      have HGl : Bx (Glob w2.drew) := ⟨(HR.out.2.2.below HI2.out.1.b HR.out.2.2.lt).turned (Turned.refl [] w2).drew (by simp)⟩
      cases hp : pAt ps i with
      | none =>
        rw [hp] at c1 c2
        simp only [hP, mP] at c1 c2
        clear hok hp
        go_upto_region 8 with (fail)
        go_still_tail 9, (by kernel_rfl)
        change wpList _ _ _ _ _ w2.drew
        go_wp2_with (go_at_call 23; refine (call_nil K y1 y2 r s y5a y5n y5c _ HGl.out).mono ?_; rintro e w5 ⟨rfl, hb5⟩; have hb5' : Below w2.heap.size w2 w5 := (Below.refl _ _).drew.trans hb5; have HT := Bx.mk (And.intro ((HI2.out.1.step hb5').more (show X + k ≤ X + (k + 1) by omega)) (And.intro HI2.out.2.1 ((hb5'.block B (block_lt HI2.out.2.2.1)).trans HI2.out.2.2.1))); clear hb5 hb5' c1 c2 z0 z1 z2 z3 z4 z5 HI2)
        obtain ⟨c3, c4⟩ := HT.out.1.cells (i := i) (by rw [HT.out.2.1]; omega)
        obtain ⟨c1, c2⟩ := HT.out.1.cells (i := (N)) (by rw [HT.out.2.1]; omega)
        have zs : w5.cell? ⟨B, 4, none⟩ = some (strV s) := cells_at HT.out.2.2 4 _ rfl
        have hXk : (X + (k + 1)) * 24 ≤ 225179981352000 := Nat.le_trans (Nat.mul_le_mul_right 24 (show X + (k + 1) ≤ X + n + 2 by omega)) HX24.out
        have hoki := HT.out.1.ok i (by rw [HT.out.2.1]; omega)
        have ka0 : ∀ d os, okO (Go.Sort.grow (redrawn w5 d) os) (X + (k + 1)) (pAt ps i) := fun d os => hoki.kept (S := []) (Turned.ofBelow (below_regrown w5 d os)) (by simp)
        have ka := fun d os => alike_o (pAt ps i) (X + (k + 1)) s (Go.Sort.grow (redrawn w5 d) os) (ka0 d os) HSR.out hXk
        clear hXk hoki ka0
        generalize pAt ps i = oi at *
        generalize pAt ps (N) = on at *
        generalize hP oi = xi at *
        generalize mP oi = yi at *
        cases on
        all_goals
          simp only [hP, mP] at c1 c2
          have q1 := cell_regrown c1
          have q2 := cell_regrown c2
          have q3 := cell_regrown c3
          have q4 := cell_regrown c4
          have q5 := cell_regrown zs
          clear c1 c2 c3 c4 zs
          refine wp_region_quiet_below (by kernel_rfl) (by kernel_rfl) ?_
          repeat (go_big_quiet_step (first | (go_at_call 24; with_reducible exact Calls.regrown_of (ka _ _))))
          refine wpQuiet_nil ?_
          intro _ hw'
          obtain ⟨⟨dq, osq⟩, hw''⟩ := hw'
          subst hw''
          have HU := Bx.mk (And.intro (HT.out.1.step (below_regrown w5 dq osq)) HT.out.2.1)
          generalize Go.Sort.grow (redrawn w5 dq) osq = wu at *
          clear q1 q2 q3 q4 q5 ka
          go_wp2
          exact ⟨⟨k + 1, hg, hc, rg, rc, ps, N, rfl, rfl, by rw [Int.natCast_succ], by omega, by omega, HU⟩, by simp only [intOf]; omega⟩
      | some p =>
        rw [hp] at c1 c2 hok
        simp only [hP, mP] at c1 c2
        have HP := Bx.mk (And.intro hp hok)
        clear hok hp
        go_upto_region 8 with (fail)
        go_still_tail 9, (by kernel_rfl)
        change wpList _ _ _ _ _ w2.drew
        have hcl := call_any p.hb p.mb p.v p.rb p.rv p.L p.mo p.mv K y1 y2 r s y5a y5n y5c w2.drew (HP.out.2.1.below (Below.refl _ _).drew) HGl.out (fun x hx => by
          have h1 := HI2.out.1.lo i (by rw [HI2.out.2.1]; exact hi) x (by rw [HP.out.1]; exact hx)
          have h2 := HR.out.2.2.lt
          omega) HSR.out (Nat.le_trans (Nat.mul_le_mul_right 24 (show p.L.length + 1 ≤ X + n + 2 by have := HP.out.2.2; omega)) HX24.out)
        go_wp2_with (go_at_call 23; refine hcl.mono ?_; rintro e w5 ⟨rfl, v', rv', L', mv', hto, hl⟩; have hbk : w5.heap[B]? = some (.cells (opBox K y1 y2 r s y5a y5n y5c) 48 (0, 0)) := (hto.t.block B (block_lt HI2.out.2.2.1) (fun hm => HI2.out.2.2.2.1.2.2 i (by rw [HI2.out.2.1]; exact hi) (by rw [HP.out.1]; exact hm))).trans HI2.out.2.2.1; obtain ⟨qs, hq1, hq2⟩ := HI2.out.1.called (by rw [HI2.out.2.1]; exact hi) HP.out.1 hto hl HP.out.2.2; have HT : Bx (PlIn w w5 hg hc (qs.map hP) rg rc (qs.map mP) qs (X + (k + 1)) ∧ qs.length = N + 1 ∧ w5.heap[B]? = some (.cells (opBox K y1 y2 r s y5a y5n y5c) 48 (0, 0))) := ⟨hq1, hq2.trans HI2.out.2.1, hbk⟩; clear hto hl hbk hq1 hq2 c1 c2 z0 z1 z2 z3 z4 z5 HI2 hcl HP)
        obtain ⟨c3, c4⟩ := HT.out.1.cells (i := i) (by rw [HT.out.2.1]; omega)
        obtain ⟨c1, c2⟩ := HT.out.1.cells (i := (N)) (by rw [HT.out.2.1]; omega)
        have zs : w5.cell? ⟨B, 4, none⟩ = some (strV s) := cells_at HT.out.2.2 4 _ rfl
        have hXk : (X + (k + 1)) * 24 ≤ 225179981352000 := Nat.le_trans (Nat.mul_le_mul_right 24 (show X + (k + 1) ≤ X + n + 2 by omega)) HX24.out
        have hoki := HT.out.1.ok i (by rw [HT.out.2.1]; omega)
        have ka0 : ∀ d os, okO (Go.Sort.grow (redrawn w5 d) os) (X + (k + 1)) (pAt qs i) := fun d os => hoki.kept (S := []) (Turned.ofBelow (below_regrown w5 d os)) (by simp)
        have ka := fun d os => alike_o (pAt qs i) (X + (k + 1)) s (Go.Sort.grow (redrawn w5 d) os) (ka0 d os) HSR.out hXk
        clear hXk hoki ka0
        generalize pAt qs i = oi at *
        generalize pAt qs (N) = on at *
        generalize hP oi = xi at *
        generalize mP oi = yi at *
        cases on
        all_goals
          simp only [hP, mP] at c1 c2
          have q1 := cell_regrown c1
          have q2 := cell_regrown c2
          have q3 := cell_regrown c3
          have q4 := cell_regrown c4
          have q5 := cell_regrown zs
          clear c1 c2 c3 c4 zs
          refine wp_region_quiet_below (by kernel_rfl) (by kernel_rfl) ?_
          repeat (go_big_quiet_step (first | (go_at_call 24; with_reducible exact Calls.regrown_of (ka _ _))))
          refine wpQuiet_nil ?_
          intro _ hw'
          obtain ⟨⟨dq, osq⟩, hw''⟩ := hw'
          subst hw''
          have HU := Bx.mk (And.intro (HT.out.1.step (below_regrown w5 dq osq)) HT.out.2.1)
          generalize Go.Sort.grow (redrawn w5 dq) osq = wu at *
          clear q1 q2 q3 q4 q5 ka
          go_wp2
          exact ⟨⟨k + 1, hg, hc, rg, rc, qs, N, rfl, rfl, by rw [Int.natCast_succ], by omega, by omega, HU⟩, by simp only [intOf]; omega⟩
    · have hb := HI.out.1.b
      have HBL := Bx.mk hb
      clear HI hb
      go_wp2_with fail
      refine (hlive_any _).mono ?_
      rintro e w11 ⟨rfl, hb11⟩
      have HF := Bx.mk (HBL.out.trans (hb11.mono HBL.out.size))
      clear hb11
      go_wp2
      go_ret
      exact ⟨rfl, HF.out⟩
end Go.Proofs.YtlodgmmhaolmaaaDoor
