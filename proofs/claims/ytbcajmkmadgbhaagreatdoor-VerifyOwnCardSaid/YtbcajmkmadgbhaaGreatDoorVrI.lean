/- Verify: machine.heights. -/
import Derived.Test.YtbcajmkmadgbhaaGreatDoorVrG
import Derived.Test.YtbcajmkmadgbhaaGreatDoorMap
set_option linter.unusedSimpArgs false
set_option linter.unusedVariables false
namespace Go.Proofs.YtbcajmkmadgbhaaGreatDoor
open Go.RowKit
open Go.Maps (Keyed)
theorem grownB {w w' : World} (h : Below w.heap.size w w') (row : Option Nat) : w.grownBy w' row := ⟨h.os, h.tape, h.output, h.size, fun i hi _ => h.block i hi⟩
theorem no_rowB (v : Value) : v.ownBlock = none ∨ v.ownBlock ≠ none := by cases v.ownBlock <;> simp
theorem belowOwn {B : Nat} {w a b : World} {row : Option Nat} (h : Below B w a) (hg : a.grownBy b row) (hr : ∀ g, row = some g → B ≤ g) (hB : B ≤ a.heap.size) : Below B w b := h.grown hg hB hr
/-- the cells of a row of numbers -/
def intC (l : List Int) : List Value := l.map fun z => Value.int .i64 z
theorem intC_snoc (l : List Int) (z : Int) : intC (l ++ [z]) = intC l ++ [.int .i64 z] := by simp [intC]
theorem newsI (w : World) (z : Int) (T : Nat) : ∀ (j : Nat) (u : Value), [Value.int .i64 z][j]? = some u → (w.alloc (.cells #[.int .i64 z] T)).cell? ((⟨w.heap.size, 0, none⟩ : Addr).add j) = some u := fun j u hj => by
  match j, hj with
  | 0, hj =>
    have e : (⟨w.heap.size, 0, none⟩ : Addr).add 0 = ⟨w.heap.size, 0, none⟩ := by simp [Addr.add]
    rw [e, World.cell?_alloc_at _ _ _ _ rfl]
    simpa using hj
theorem oneI (z : Int) : ∀ u ∈ [Value.int .i64 z], u.oneCell' = true := fun u hu => by
  simp only [List.mem_cons, List.not_mem_nil, or_false] at hu
  subst hu; rfl
/-- a map of numbers, as a function -/
def comF (c : Int → Option Int) : Lit → Option Value
  | .int .i64 j => (c j).map fun v => Value.int .i64 v
  | _ => none
theorem comF_none : comF (fun _ => none) = fun _ => none := by
  funext l
  unfold comF
  split <;> rfl
theorem comF_put (c : Int → Option Int) (n v : Int) : comF (putF c n v) = upd (comF c) (.int .i64 n) (some (.int .i64 v)) := by
  funext l
  by_cases h : l = .int .i64 n
  · subst h
    rw [upd_same]
    simp [comF, putF]
  · rw [upd_other _ _ h]
    unfold comF
    split
    · rename_i j
      have : j ≠ n := fun e => h (by rw [e])
      simp [putF, this]
    · rfl
theorem comF_del (c : Int → Option Int) (n : Int) : comF (delF c n) = upd (comF c) (.int .i64 n) none := by
  funext l
  by_cases h : l = .int .i64 n
  · subst h
    rw [upd_same]
    simp [comF, delF]
  · rw [upd_other _ _ h]
    unfold comF
    split
    · rename_i j
      have : j ≠ n := fun e => h (by rw [e])
      simp [delF, this]
    · rfl
theorem lawI : Keyed Tryz.prog 3 := Maps.int_keyed Tryz.underlying3
theorem keyI {z : Int} (h : i64B z) : keyOf Tryz.prog 3 (.int .i64 z) = some (.int .i64 z) :=
  Maps.keyOf_int_mk Tryz.underlying3 (by unfold i64B at h; simp [Lit.wf, IntKind.min, IntKind.max, IntKind.signed, IntKind.bits]; omega)
theorem zeroIn (w : World) : (zeroValue 3).run Tryz.prog w = .ok (.int .i64 0) w := by kernel_rfl
theorem com_look {w : World} {mb n : Nat} {c : Int → Option Int} (h : MapAt Tryz.prog w 3 mb n (comF c)) {z : Int} (hz : i64B z) :
    (Instr.lookup 122 (.map (some mb)) (.int .i64 z) true).run Tryz.prog w = .ok (.tuple #[.int .i64 ((c z).getD 0), .bool (c z).isSome]) w ∧ (Instr.lookup 122 (.map (some mb)) (.int .i64 z) false).run Tryz.prog w = .ok (.int .i64 ((c z).getD 0)) w := by
  have h2 := h.look lawI Tryz.underlying122 (zeroIn w) (keyI hz)
  have e : comF c (.int .i64 z) = (c z).map fun v => Value.int .i64 v := rfl
  rw [e] at h2
  cases hc : c z with
  | none => rw [hc] at h2; exact h2
  | some x => rw [hc] at h2; exact h2
/-- what heights knows at a round -/
structure HtB (w wr : World) (S : Nat) (A : Option Addr) (l : List InsD) (cap : Nat) (fi : Bool) (k j jo : Nat) (s : HS) (o : Value) : Prop where
  below : Below S w wr
  sz : S + 2 ≤ wr.heap.size
  mach : ∃ T, wr.heap[S]? = some (.cells (machC A l.length cap fi k) T (0, 0))
  map : MapAt Tryz.prog wr 3 (S + 1) j (comF s.com)
  out : wr.ownsRow (S + 2) 3 1 o jo (intC s.out)
  row : InsL wr A l
theorem HtB.m {w wr : World} {S : Nat} {A : Option Addr} {l : List InsD} {cap : Nat} {fi : Bool} {k j jo : Nat} {s : HS} {o : Value} (h : HtB w wr S A l cap fi k j jo s o) : wr.cell? ⟨S, 0, none⟩ = some (.slice A l.length cap) ∧ wr.cell? ⟨S, 1, none⟩ = some (.bool fi) ∧ wr.cell? ⟨S, 2, none⟩ = some (.int .i64 k) := by
  obtain ⟨T, h⟩ := h.mach
  exact ⟨cells_at h 0 _ rfl, cells_at h 1 _ rfl, cells_at h 2 _ rfl⟩
theorem HtB.step {w wr w' : World} {S : Nat} {A : Option Addr} {l : List InsD} {cap : Nat} {fi : Bool} {k j jo : Nat} {s : HS} {o : Value} (h : HtB w wr S A l cap fi k j jo s o) (hb : Below wr.heap.size wr w') : HtB w w' S A l cap fi k j jo s o where
  below := h.below.trans (hb.mono (by have := h.sz; omega))
  sz := Nat.le_trans h.sz hb.size
  mach := by obtain ⟨T, h0⟩ := h.mach; exact ⟨T, by rw [hb.block S (block_lt h0)]; exact h0⟩
  map := h.map.below hb
  out := h.out.kept (grownB hb none) (no_rowB _)
  row := h.row.below hb
/-- a row that lies below stays -/
theorem RowL.kept {α : Type} {k : Nat} {enc : α → List Value} {w w' : World} {A : Option Addr} {l : List α} {B : Nat} (h : RowL k enc w A l) (hb : Below B w w') (hB : ∀ b off, A = some ⟨b, off, none⟩ → 0 < l.length → b < B) : RowL k enc w' A l where
  row := fun hn => by
    obtain ⟨b, off, e, hr⟩ := h.row hn
    exact ⟨b, off, e, fun i x hx j v hj => by rw [hb.cell (p := ⟨b, off + i * k + j, none⟩) (hB b off e hn)]; exact hr i x hx j v hj⟩
  n := h.n
/-- where a machine's row lies -/
def RowLt (A : Option Addr) (n S : Nat) : Prop := ∀ b off, A = some ⟨b, off, none⟩ → 0 < n → b < S
/-- the map has turned -/
theorem HtB.turn {w wr w' : World} {S : Nat} {A : Option Addr} {l : List InsD} {cap : Nat} {fi : Bool} {k j jo : Nat} {s : HS} {o : Value} (h : HtB w wr S A l cap fi k j jo s o) (hA : RowLt A l.length S) (ht : wr.mapTurned w' (S + 1)) {n : Nat} {c' : Int → Option Int} (hm : MapAt Tryz.prog w' 3 (S + 1) n (comF c')) :
    Below S w w' ∧ S + 2 ≤ w'.heap.size ∧ (∃ T, w'.heap[S]? = some (.cells (machC A l.length cap fi k) T (0, 0))) ∧ MapAt Tryz.prog w' 3 (S + 1) n (comF c') ∧ w'.ownsRow (S + 2) 3 1 o jo (intC s.out) ∧ InsL w' A l := by
  have hg := ht.grown
  have hb : Below S wr w' := ⟨hg.os, hg.tape, hg.output, hg.size, fun i hi => hg.block i (by have := h.sz; omega) (by intro e; injection e with e; omega)⟩
  refine ⟨h.below.trans hb, Nat.le_trans h.sz hg.size, ?_, hm, h.out.kept hg ?_, h.row.kept hb hA⟩
  · obtain ⟨T, h0⟩ := h.mach
    exact ⟨T, by rw [hg.block S (block_lt h0) (by intro e; injection e with e; omega)]; exact h0⟩
  · cases ho : o.ownBlock with
    | none => exact Or.inl rfl
    | some g => exact Or.inr (by intro e; injection e with e; have := (h.out.lt g ho).1; omega)
/-- a number more in the row of heights -/
theorem HtB.grow {w wr w' : World} {S : Nat} {A : Option Addr} {l : List InsD} {cap : Nat} {fi : Bool} {k j jo : Nat} {s : HS} {o : Value} (h : HtB w wr S A l cap fi k j jo s o) (hA : RowLt A l.length S) (hg : wr.grownBy w' o.ownBlock) :
    Below S w w' ∧ S + 2 ≤ w'.heap.size ∧ (∃ T, w'.heap[S]? = some (.cells (machC A l.length cap fi k) T (0, 0))) ∧ MapAt Tryz.prog w' 3 (S + 1) j (comF s.com) ∧ InsL w' A l := by
  have hb : Below S wr w' := ⟨hg.os, hg.tape, hg.output, hg.size, fun i hi => hg.block i (by have := h.sz; omega) (by intro e; have := (h.out.lt i e.symm).1; omega)⟩
  refine ⟨h.below.trans hb, Nat.le_trans h.sz hg.size, ?_, ?_, h.row.kept hb hA⟩
  · obtain ⟨T, h0⟩ := h.mach
    exact ⟨T, by rw [hg.block S (block_lt h0) (by intro e; have := (h.out.lt S e.symm).1; omega)]; exact h0⟩
  · exact h.map.block (hg.block _ h.map.lt (by intro e; have := (h.out.lt (S + 1) e.symm).1; omega))
/-- a box of cells -/
def CB (w : World) (b : Nat) (cs : Array Value) : Prop := ∃ T, w.heap[b]? = some (.cells cs T (0, 0))
theorem CB.new (w : World) (cs : Array Value) (T : TypeId) : CB (w.alloc (.cells cs T)) w.heap.size cs := ⟨T, heap_alloc_new w _⟩
theorem CB.lt {w : World} {b : Nat} {cs : Array Value} (h : CB w b cs) : b < w.heap.size := by obtain ⟨T, h⟩ := h; exact block_lt h
theorem CB.grown {w w' : World} {b : Nat} {cs : Array Value} {row : Option Nat} (h : CB w b cs) (hg : w.grownBy w' row) (hne : row ≠ some b) : CB w' b cs := by
  have hl := h.lt
  obtain ⟨T, h⟩ := h
  exact ⟨T, by rw [hg.block b hl (fun e => hne e.symm)]; exact h⟩
theorem CB.below {w w' : World} {b : Nat} {cs : Array Value} (h : CB w b cs) (hb : Below w.heap.size w w') : CB w' b cs := h.grown (grownB hb none) (by simp)
theorem CB.at {w : World} {b : Nat} {cs : Array Value} (h : CB w b cs) (i : Nat) (v : Value) (hv : cs[i]? = some v) : w.cell? ⟨b, i, none⟩ = some v := by
  obtain ⟨T, h⟩ := h
  exact cells_at h i v hv
theorem heiF_bad {l : List InsD} {R : Nat ⊕ List Int} {j : Nat} {i : InsD} {s : HS} (hI : heiF (l.drop j) j s = R) (hF : l.drop j = i :: l.drop (j + 1)) (hb : (unlike (s.com j) s.high || badH i s.high) = true) : R = .inl j := by
  rw [hF] at hI
  unfold heiF at hI
  rw [if_pos hb] at hI
  exact hI.symm
theorem heiF_go {l : List InsD} {R : Nat ⊕ List Int} {j : Nat} {i : InsD} {s : HS} (hI : heiF (l.drop j) j s = R) (hF : l.drop j = i :: l.drop (j + 1)) (hb : (unlike (s.com j) s.high || badH i s.high) = false) : heiF (l.drop (j + 1)) (j + 1) (stepH i j s) = R := by
  rw [hF] at hI
  unfold heiF at hI
  rwa [if_neg (by rw [hb]; simp)] at hI
theorem takes_bd (c : Nat) : 0 ≤ takesC c ∧ takesC c ≤ 2 ∧ 0 ≤ putsC c ∧ putsC c ≤ 1 := by
  unfold takesC putsC
  refine ⟨?_, ?_, ?_, ?_⟩ <;> repeat' split
  all_goals omega
/-- where the handed-back row lies -/
def HtOut (w w' : World) (r : Nat ⊕ List Int) (v : Value) (k : Nat) : Prop := match r with
  | .inl n => v = .tuple #[.slice none 0 0, atV ((k : Int) + (n : Int)) 190]
  | .inr l => ∃ o, v = .tuple #[o, .nilIface] ∧ w'.ownsRow w.heap.size 3 1 o l.length (intC l)
set_option maxHeartbeats 8000000 in
set_option maxRecDepth 100000 in
theorem heights_any (A : Option Addr) (l : List InsD) (cap : Nat) (fi : Bool) (k : Nat) (w : World) (hr : InsL w A l) (hB : ∀ i ∈ l, InsB i) (hok : ∀ i ∈ l, okC fi i.c = true) (hk : k ≤ 1048576) (hl : l.length ≤ 1048576) :
    Calls Tryz.prog 26 #[machV A l.length cap fi k] w fun e w' => ∃ v, e = .returned v ∧ HtOut w w' (heiF l 0 hs0) v k ∧ Below w.heap.size w w' := by
  obtain ⟨i0, hi, hiz, hi1, hi2⟩ := info_parts (show (Tryz.prog.info? 3).map (fun i => (i.zero, i.size, i.bytes)) = some (some (.int .i64 0), 1, 8) by kernel_rfl)
  have HI0 : Bx (Tryz.prog.info? 3 = some i0 ∧ i0.zero = some (.int .i64 0) ∧ i0.size = 1 ∧ i0.bytes = 8) := ⟨hi, hiz, hi1, hi2⟩
  have hmm := @run_makeMap Tryz.prog
  have hlt : RowLt A l.length w.heap.size := by
    intro b off e hn
    obtain ⟨b', off', e', hrow⟩ := hr.row hn
    rw [e] at e'
    injection e' with e'
    injection e' with e1 e2
    have h0 := hrow 0 l[0] (List.getElem?_eq_getElem hn) 0 _ rfl
    rw [e1]; exact cell_lt h0
  have hb0 : HtB w ((w.alloc (.cells (machC A l.length cap fi k) 84)).alloc (.map #[] 0)) w.heap.size A l cap fi k 0 0 hs0 (.slice none 0 0) := by
    refine ⟨below2 _ _ _, by simp only [heap_push, Array.size_push]; omega, ⟨84, ?_⟩, ?_, World.ownsRow_nil _ _ _ _, hr.below (below2 _ _ _)⟩
    · rw [(below1 (w.alloc (.cells (machC A l.length cap fi k) 84)) _).block w.heap.size (by simp only [heap_push, Array.size_push]; omega)]; exact heap_alloc_new w _
    · have := MapAt.made Tryz.prog (w.alloc (.cells (machC A l.length cap fi k) 84)) 3
      rw [show (w.alloc (.cells (machC A l.length cap fi k) 84)).heap.size = w.heap.size + 1 by simp only [heap_push, Array.size_push]] at this
      exact this.same (fun l => by rw [show hs0.com = fun _ => none from rfl, comF_none])
  have H0 : Bx _ := ⟨hb0⟩
  have m0 := hb0.m.1
  have HA : Bx _ := ⟨And.intro hlt (And.intro hB hok)⟩
  obtain ⟨R, hR⟩ : ∃ R, heiF l 0 hs0 = R := ⟨_, rfl⟩
  rw [hR]
  have HR : Bx _ := ⟨hR⟩
  clear hi hiz hi1 hi2 hlt hb0 hR hr hB hok
  go_enter Tryz.func26, Tryz.ntmps26
  go_wp2_with fail
  generalize ((w.alloc (.cells #[.slice A l.length cap, .bool fi, .int .i64 (k : Int)] 84)).alloc (.map #[] 0)) = w0 at *
  generalize hS : w.heap.size = S at *
  have HZ : Bx (w.heap.size = S) := ⟨hS⟩
  clear hS m0
  go_loopw [5, 6, 21] (fun o h i wr => ∃ (j : Nat) (s : HS), j ≤ l.length ∧ i = .int .i64 (j : Int) ∧ h = .int .i64 s.high ∧ Bx (HtB w wr S A l cap fi k j j s o ∧ heiF (l.drop j) j s = R ∧ 0 ≤ s.high ∧ s.high ≤ 200)) (fun _ _ i _ => l.length - (intOf i).toNat)
  case atStart => exact ⟨0, hs0, by omega, rfl, rfl, ⟨H0.out, HR.out, by decide, by decide⟩⟩
  case round =>
    obtain ⟨j, s, hj, rfl, rfl, HI⟩ := hrel
    by_cases hlt : j < l.length
    · obtain ⟨pb, off, hA, hrow⟩ := HI.out.1.row.row (by omega)
      have hx : l[j]? = some l[j] := List.getElem?_eq_getElem hlt
      have HM : Bx (InsB l[j] ∧ okC fi l[j].c = true) := ⟨HA.out.2.1 _ (List.getElem_mem hlt), HA.out.2.2 _ (List.getElem_mem hlt)⟩
      have HF : Bx (l.drop j = l[j] :: l.drop (j + 1)) := ⟨List.drop_eq_getElem_cons hlt⟩
      have a0 : wr.cell? ⟨pb, off + j * 3, none⟩ = some (.int .u8 (l[j].c : Int)) := hrow j _ hx 0 _ rfl
      have a1 : wr.cell? ⟨pb, off + j * 3 + 1, none⟩ = some (.int .i64 l[j].a) := hrow j _ hx 1 _ rfl
      have a2 : wr.cell? ⟨pb, off + j * 3 + 2, none⟩ = some (.int .i64 l[j].b) := hrow j _ hx 2 _ rfl
      generalize l[j] = i at *
      obtain ⟨c, a, b⟩ := i
      have HOl : Bx (∀ g, u5.ownBlock = some g → g < wr.heap.size) := ⟨fun g e => (HI.out.1.out.lt g e).2⟩
      have HT1 : Bx _ := ⟨HI.out.1.step (below1 wr (.cells #[.int .u8 (c : Int), .int .i64 a, .int .i64 b] 94))⟩
      have HC1 : Bx _ := ⟨CB.new wr #[.int .u8 (c : Int), .int .i64 a, .int .i64 b] 94⟩
      have HSz : Bx (S + 2 ≤ wr.heap.size) := ⟨HI.out.1.sz⟩
      subst hA
      clear hrow hx
      go_upto_region 7 with (fail)
      generalize (wr.alloc (.cells #[.int .u8 (c : Int), .int .i64 a, .int .i64 b] 94)) = w1 at *
      generalize wr.heap.size = B at *
      clear a0 a1 a2
      have m2 := HT1.out.m.2.2
      have ka := fun p w => vat_any p 190 w (by decide)
      have hl := (com_look (z := (j : Int)) HT1.out.map (by unfold i64B; omega)).1
      go_wp2_with fail
      refine (ka _ _).mono ?_
      rintro e w1' ⟨rfl, rfl⟩
      clear ka
      have HBB : Bx (Below S w w1) := ⟨HT1.out.below⟩
      cases hc : s.com (j : Int) with
      | none =>
        rw [hc] at hl
        have HU : Bx (unlike (s.com (j : Int)) s.high = false) := ⟨by rw [hc]; rfl⟩
        clear hc
        go_wp2_with (first | (at_delete; refine wpList_drop_at _ rfl (.tmp 44) (.tmp 45) 122 3 rfl 3 lawI Tryz.underlying122 (S + 1) j (comF s.com) rfl HT1.out.map _ _ rfl (keyI (by unfold i64B; omega)) ?_; intro w2 hm2 ht2; have HT2 : Bx (HtB w w2 S (some ⟨pb, off, none⟩) l cap fi k j j ⟨s.high, delF s.com j, s.out⟩ u5) := ⟨by rw [← comF_del] at hm2; obtain ⟨y1, y2, y3, y4, y5, y6⟩ := HT1.out.turn HA.out.1 ht2 hm2; exact ⟨y1, y2, y3, y4, y5, y6⟩⟩; have HC2 : Bx _ := ⟨HC1.out.grown ht2.grown (by intro e; injection e with e; have := HSz.out; omega)⟩; clear hm2 ht2 m2 hl) | (at_builtin; refine wpList_append_own _ rfl _ _ 62 rfl (S + 2) 3 i0 (.int .i64 0) 1 8 Tryz.underlying62 HI0.out.1 HI0.out.2.1 HI0.out.2.2.1 HI0.out.2.2.2 rfl (by decide) u5 j (intC s.out) rfl (HT2.out.out.alloc _) ⟨w2.heap.size, 0, none⟩ 1 1 [.int .i64 s.high] rfl rfl (newsI w2 _ _) (oneI _) (by unfold maxLen; omega) (by omega) (by have := HT2.out.sz; simp only [heap_push, Array.size_push]; omega) ?_; intro v' w3 hown hg _; have HT3 : Bx (HtB w w3 S (some ⟨pb, off, none⟩) l cap fi k j (j + 1) ⟨s.high, delF s.com j, s.out ++ [s.high]⟩ v') := ⟨by obtain ⟨y1, y2, y3, y4, y6⟩ := (HT2.out.step (below1 w2 (.cells #[.int .i64 s.high] 3))).grow HA.out.1 hg; exact ⟨y1, y2, y3, y4, by rw [intC_snoc]; exact hown, y6⟩⟩; have HC3 : Bx _ := ⟨(HC2.out.below (below1 w2 (.cells #[.int .i64 s.high] 3))).grown hg (fun e => Nat.lt_irrefl _ (HOl.out _ e))⟩; clear hown hg; obtain ⟨m0, m1, m2⟩ := HT3.out.m; have n0 := HC3.out.at 0 _ rfl) | fail)
        obtain ⟨T, hT⟩ : ∃ T, takesC c = T := ⟨_, rfl⟩
        obtain ⟨U, hU⟩ : ∃ U, putsC c = U := ⟨_, rfl⟩
        have HTU : Bx (takesC c = T ∧ putsC c = U) := ⟨hT, hU⟩
        obtain ⟨tb1, tb2, tb3, tb4⟩ := takes_bd c
        rw [hT] at tb1 tb2
        rw [hU] at tb3 tb4
        have kof := of_yes (some ⟨pb, off, none⟩) l.length cap fi k c HM.out.1.c HM.out.2
        rw [hT, hU] at kof
        clear hT hU
        generalize okC true c = X3 at kof
        generalize okC false c = X4 at kof
        refine (kof _).mono ?_
        rintro e w4 ⟨rfl, hb⟩
        have HT5 : Bx _ := ⟨(HT3.out.step hb).step (below1 w4 (.cells #[.int .i64 T, .int .i64 U, .bool X3, .bool X4] 126))⟩
        have HC5 : Bx _ := ⟨(HC3.out.below hb).below (below1 w4 (.cells #[.int .i64 T, .int .i64 U, .bool X3, .bool X4] 126))⟩
        have HR5 : Bx _ := ⟨CB.new w4 #[.int .i64 T, .int .i64 U, .bool X3, .bool X4] 126⟩
        clear hb m0 m1 m2 n0 kof HT3 HC3 HT2 HC2
        go_upto_region 14 with (fail)
        generalize (w4.alloc (.cells #[.int .i64 T, .int .i64 U, .bool X3, .bool X4] 126)) = w5 at *
        generalize w4.heap.size = B2 at *
        have r0 := HR5.out.at 0 _ rfl
        have r1 := HR5.out.at 1 _ rfl
        have HH : Bx (0 ≤ s.high ∧ s.high ≤ 200) := ⟨HI.out.2.2⟩
        have hh1 := HH.out.1
        have hh2 := HH.out.2
        obtain ⟨Bh, hBh⟩ : ∃ Bh, s.high - T + U = Bh := ⟨_, rfl⟩
        have HBh : Bx (behindC c s.high = Bh) := ⟨by unfold behindC; rw [HTU.out.1, HTU.out.2]; exact hBh⟩
        have HHi : Bx ((stepH ⟨c, a, b⟩ j s).high = Bh) := ⟨HBh.out⟩
        obtain ⟨X, hX⟩ : ∃ X, decide (s.high < T) = X := ⟨_, rfl⟩
        obtain ⟨Y, hY⟩ : ∃ Y, decide (200 < Bh) = Y := ⟨_, rfl⟩
        obtain ⟨Z, hZ⟩ : ∃ Z, (((c : Int) == ((lastC fi : Nat) : Int)) : Bool) = Z := ⟨_, rfl⟩
        obtain ⟨W, hW⟩ : ∃ W, (Bh != 0) = W := ⟨_, rfl⟩
        have hW2 : (!(Bh == 0)) = W := hW
        have HBd : Bx (badH ⟨c, a, b⟩ s.high = (X || Y || (Z && W))) := ⟨by
          have he : endC c = (c == lastC fi) := by rw [Bool.eq_iff_iff, okC_end HM.out.2]; simp
          unfold badH
          rw [show behindC c s.high = Bh from HBh.out, HTU.out.1, hX, he, show (c == lastC fi) = Z by rw [← hZ]; exact (beq_code _ _).symm, hW, show decide (Bh > 200) = Y from hY]⟩
        have HP0 : Bx (X = false → Y = false → 0 ≤ Bh ∧ Bh ≤ 200) := ⟨fun h1 h2 => by rw [h1] at hX; rw [h2] at hY; simp at hX hY; omega⟩
        have kl : ∀ d os, Calls Tryz.prog 80 #[machV (some ⟨pb, off, none⟩) l.length cap fi (k : Int)] (Go.Sort.grow (redrawn w5 d) os) _ := fun d os => last_any _ _ _ fi (k : Int) _
        generalize lastC fi = LC at kl hZ
        obtain ⟨m0, m1, m2⟩ := HT5.out.m
        have i0 := HC5.out.at 0 _ rfl
        have qr0 := cell_regrown r0
        have qi0 := cell_regrown i0
        have qm0 := cell_regrown m0
        have qm1 := cell_regrown m1
        have qm2 := cell_regrown m2
        go_wp2_with fail
        clear r0 r1 i0 m0 m1 m2
        cases X
        · cases Y
          · have HP : Bx (0 ≤ (stepH ⟨c, a, b⟩ j s).high ∧ (stepH ⟨c, a, b⟩ j s).high ≤ 200) := ⟨by rw [HHi.out]; exact HP0.out rfl rfl⟩
            cases Z
            · refine wp_region_quiet_below (by kernel_rfl) (by kernel_rfl) ?_
              repeat (go_big_quiet_step (first | (go_at_call 80; with_reducible exact Calls.regrown_of (kl _ _))))
              refine wpQuiet_nil ?_
              intro _ hw'
              obtain ⟨⟨dq, osq⟩, hw''⟩ := hw'
              subst hw''
              have HT6 : Bx _ := ⟨HT5.out.step (below_regrown w5 dq osq)⟩
              have HC6 : Bx _ := ⟨HC5.out.below (below_regrown w5 dq osq)⟩
              clear kl qr0 qi0 qm0 qm1 qm2 hZ hBh
              generalize Go.Sort.grow (redrawn w5 dq) osq = w6 at *
              have HN : Bx _ := ⟨heiF_go HI.out.2.1 HF.out (by rw [HU.out, HBd.out]; rfl)⟩
              have i0 := HC6.out.at 0 _ rfl
              have i1 := HC6.out.at 1 _ rfl
              have kj := fun w => jumps_any c w
              cases hJ : jumpC c with
              | false =>
                rw [hJ] at kj
                have HST : Bx ((stepH ⟨c, a, b⟩ j s).com = delF s.com j) := ⟨by show jumpedF _ _ _ = _; unfold jumpedF; rw [if_neg (by rw [hJ]; simp)]⟩
                clear hJ
                go_wp2_with fail
                refine (kj _).mono ?_
                rintro e w7 ⟨rfl, rfl⟩
                have HT7 : Bx (HtB w w6 S (some ⟨pb, off, none⟩) l cap fi k (j + 1) (j + 1) (stepH ⟨c, a, b⟩ j s) v') := ⟨by obtain ⟨y1, y2, y3, y4, y5, y6⟩ := HT6.out; exact ⟨y1, y2, y3, by rw [HST.out]; exact y4.mono (by omega), y5, y6⟩⟩
                clear kj i0 i1
                go_wp2_with fail
                exact ⟨⟨j + 1, stepH ⟨c, a, b⟩ j s, by omega, by rw [Int.natCast_succ], congrArg (Value.int IntKind.i64) HHi.out.symm, ⟨HT7.out, HN.out, HP.out.1, HP.out.2⟩⟩, by simp only [intOf]; omega⟩
              | true =>
                rw [hJ] at kj
                have HJ : Bx ((stepH ⟨c, a, b⟩ j s).com = putF (delF s.com j) a (if unlike (delF s.com j a) Bh then -1 else Bh)) := ⟨by show jumpedF _ _ _ = _; unfold jumpedF; rw [if_pos hJ, show behindC c s.high = Bh from HBh.out]⟩
                clear hJ
                have hl := (com_look (c := delF s.com j) (z := a) HT6.out.map HM.out.1.a).1
                cases hc : (delF s.com j) a with
                | none =>
                  rw [hc] at hl
                  have HST : Bx ((stepH ⟨c, a, b⟩ j s).com = putF (delF s.com j) a Bh) := ⟨by rw [HJ.out, hc]; rfl⟩
                  clear hc
                  go_wp2_with fail
                  refine (kj _).mono ?_
                  rintro e w7 ⟨rfl, rfl⟩
                  clear kj
                  obtain ⟨w7, hrun, hm7, ht7⟩ := (show MapAt Tryz.prog w6 3 (S + 1) j (comF (delF s.com j)) from HT6.out.map).store lawI Tryz.underlying122 (by unfold maxLen; omega) (.int .i64 (Bh)) (keyI HM.out.1.a)
                  have HT7 : Bx (HtB w w7 S (some ⟨pb, off, none⟩) l cap fi k (j + 1) (j + 1) (stepH ⟨c, a, b⟩ j s) v') := ⟨by rw [← comF_put] at hm7; obtain ⟨y1, y2, y3, y4, y5, y6⟩ := HT6.out.turn HA.out.1 ht7 hm7; exact ⟨y1, y2, y3, by rw [HST.out]; exact y4, y5, y6⟩⟩
                  clear hm7 ht7
                  go_wp2_with fail
                  exact ⟨⟨j + 1, stepH ⟨c, a, b⟩ j s, by omega, by rw [Int.natCast_succ], congrArg (Value.int IntKind.i64) HHi.out.symm, ⟨HT7.out, HN.out, HP.out.1, HP.out.2⟩⟩, by simp only [intOf]; omega⟩
                | some x =>
                  rw [hc] at hl
                  obtain ⟨E, hE⟩ : ∃ E, (x != Bh) = E := ⟨_, rfl⟩
                  have hE2 : (!(x == Bh)) = E := hE
                  have HUU : Bx (unlike (delF s.com j a) Bh = E) := ⟨by rw [hc]; exact hE⟩
                  clear hc
                  cases E
                  · have HST : Bx ((stepH ⟨c, a, b⟩ j s).com = putF (delF s.com j) a Bh) := ⟨by rw [HJ.out, HUU.out]; rfl⟩
                    go_wp2_with fail
                    refine (kj _).mono ?_
                    rintro e w7 ⟨rfl, rfl⟩
                    clear kj
                    obtain ⟨w7, hrun, hm7, ht7⟩ := (show MapAt Tryz.prog w6 3 (S + 1) j (comF (delF s.com j)) from HT6.out.map).store lawI Tryz.underlying122 (by unfold maxLen; omega) (.int .i64 (Bh)) (keyI HM.out.1.a)
                    have HT7 : Bx (HtB w w7 S (some ⟨pb, off, none⟩) l cap fi k (j + 1) (j + 1) (stepH ⟨c, a, b⟩ j s) v') := ⟨by rw [← comF_put] at hm7; obtain ⟨y1, y2, y3, y4, y5, y6⟩ := HT6.out.turn HA.out.1 ht7 hm7; exact ⟨y1, y2, y3, by rw [HST.out]; exact y4, y5, y6⟩⟩
                    clear hm7 ht7
                    go_wp2_with fail
                    exact ⟨⟨j + 1, stepH ⟨c, a, b⟩ j s, by omega, by rw [Int.natCast_succ], congrArg (Value.int IntKind.i64) HHi.out.symm, ⟨HT7.out, HN.out, HP.out.1, HP.out.2⟩⟩, by simp only [intOf]; omega⟩
                  · have HST : Bx ((stepH ⟨c, a, b⟩ j s).com = putF (delF s.com j) a (-1)) := ⟨by rw [HJ.out, HUU.out]; rfl⟩
                    go_wp2_with fail
                    refine (kj _).mono ?_
                    rintro e w7 ⟨rfl, rfl⟩
                    clear kj
                    obtain ⟨w7, hrun, hm7, ht7⟩ := (show MapAt Tryz.prog w6 3 (S + 1) j (comF (delF s.com j)) from HT6.out.map).store lawI Tryz.underlying122 (by unfold maxLen; omega) (.int .i64 (-1)) (keyI HM.out.1.a)
                    have HT7 : Bx (HtB w w7 S (some ⟨pb, off, none⟩) l cap fi k (j + 1) (j + 1) (stepH ⟨c, a, b⟩ j s) v') := ⟨by rw [← comF_put] at hm7; obtain ⟨y1, y2, y3, y4, y5, y6⟩ := HT6.out.turn HA.out.1 ht7 hm7; exact ⟨y1, y2, y3, by rw [HST.out]; exact y4, y5, y6⟩⟩
                    clear hm7 ht7
                    go_wp2_with fail
                    exact ⟨⟨j + 1, stepH ⟨c, a, b⟩ j s, by omega, by rw [Int.natCast_succ], congrArg (Value.int IntKind.i64) HHi.out.symm, ⟨HT7.out, HN.out, HP.out.1, HP.out.2⟩⟩, by simp only [intOf]; omega⟩
            · cases W
              · refine wp_region_quiet_below (by kernel_rfl) (by kernel_rfl) ?_
                repeat (go_big_quiet_step (first | (go_at_call 80; with_reducible exact Calls.regrown_of (kl _ _))))
                refine wpQuiet_nil ?_
                intro _ hw'
                obtain ⟨⟨dq, osq⟩, hw''⟩ := hw'
                subst hw''
                have HT6 : Bx _ := ⟨HT5.out.step (below_regrown w5 dq osq)⟩
                have HC6 : Bx _ := ⟨HC5.out.below (below_regrown w5 dq osq)⟩
                clear kl qr0 qi0 qm0 qm1 qm2 hZ hBh
                generalize Go.Sort.grow (redrawn w5 dq) osq = w6 at *
                have HN : Bx _ := ⟨heiF_go HI.out.2.1 HF.out (by rw [HU.out, HBd.out]; rfl)⟩
                have i0 := HC6.out.at 0 _ rfl
                have i1 := HC6.out.at 1 _ rfl
                have kj := fun w => jumps_any c w
                cases hJ : jumpC c with
                | false =>
                  rw [hJ] at kj
                  have HST : Bx ((stepH ⟨c, a, b⟩ j s).com = delF s.com j) := ⟨by show jumpedF _ _ _ = _; unfold jumpedF; rw [if_neg (by rw [hJ]; simp)]⟩
                  clear hJ
                  go_wp2_with fail
                  refine (kj _).mono ?_
                  rintro e w7 ⟨rfl, rfl⟩
                  have HT7 : Bx (HtB w w6 S (some ⟨pb, off, none⟩) l cap fi k (j + 1) (j + 1) (stepH ⟨c, a, b⟩ j s) v') := ⟨by obtain ⟨y1, y2, y3, y4, y5, y6⟩ := HT6.out; exact ⟨y1, y2, y3, by rw [HST.out]; exact y4.mono (by omega), y5, y6⟩⟩
                  clear kj i0 i1
                  go_wp2_with fail
                  exact ⟨⟨j + 1, stepH ⟨c, a, b⟩ j s, by omega, by rw [Int.natCast_succ], congrArg (Value.int IntKind.i64) HHi.out.symm, ⟨HT7.out, HN.out, HP.out.1, HP.out.2⟩⟩, by simp only [intOf]; omega⟩
                | true =>
                  rw [hJ] at kj
                  have HJ : Bx ((stepH ⟨c, a, b⟩ j s).com = putF (delF s.com j) a (if unlike (delF s.com j a) Bh then -1 else Bh)) := ⟨by show jumpedF _ _ _ = _; unfold jumpedF; rw [if_pos hJ, show behindC c s.high = Bh from HBh.out]⟩
                  clear hJ
                  have hl := (com_look (c := delF s.com j) (z := a) HT6.out.map HM.out.1.a).1
                  cases hc : (delF s.com j) a with
                  | none =>
                    rw [hc] at hl
                    have HST : Bx ((stepH ⟨c, a, b⟩ j s).com = putF (delF s.com j) a Bh) := ⟨by rw [HJ.out, hc]; rfl⟩
                    clear hc
                    go_wp2_with fail
                    refine (kj _).mono ?_
                    rintro e w7 ⟨rfl, rfl⟩
                    clear kj
                    obtain ⟨w7, hrun, hm7, ht7⟩ := (show MapAt Tryz.prog w6 3 (S + 1) j (comF (delF s.com j)) from HT6.out.map).store lawI Tryz.underlying122 (by unfold maxLen; omega) (.int .i64 (Bh)) (keyI HM.out.1.a)
                    have HT7 : Bx (HtB w w7 S (some ⟨pb, off, none⟩) l cap fi k (j + 1) (j + 1) (stepH ⟨c, a, b⟩ j s) v') := ⟨by rw [← comF_put] at hm7; obtain ⟨y1, y2, y3, y4, y5, y6⟩ := HT6.out.turn HA.out.1 ht7 hm7; exact ⟨y1, y2, y3, by rw [HST.out]; exact y4, y5, y6⟩⟩
                    clear hm7 ht7
                    go_wp2_with fail
                    exact ⟨⟨j + 1, stepH ⟨c, a, b⟩ j s, by omega, by rw [Int.natCast_succ], congrArg (Value.int IntKind.i64) HHi.out.symm, ⟨HT7.out, HN.out, HP.out.1, HP.out.2⟩⟩, by simp only [intOf]; omega⟩
                  | some x =>
                    rw [hc] at hl
                    obtain ⟨E, hE⟩ : ∃ E, (x != Bh) = E := ⟨_, rfl⟩
                    have hE2 : (!(x == Bh)) = E := hE
                    have HUU : Bx (unlike (delF s.com j a) Bh = E) := ⟨by rw [hc]; exact hE⟩
                    clear hc
                    cases E
                    · have HST : Bx ((stepH ⟨c, a, b⟩ j s).com = putF (delF s.com j) a Bh) := ⟨by rw [HJ.out, HUU.out]; rfl⟩
                      go_wp2_with fail
                      refine (kj _).mono ?_
                      rintro e w7 ⟨rfl, rfl⟩
                      clear kj
                      obtain ⟨w7, hrun, hm7, ht7⟩ := (show MapAt Tryz.prog w6 3 (S + 1) j (comF (delF s.com j)) from HT6.out.map).store lawI Tryz.underlying122 (by unfold maxLen; omega) (.int .i64 (Bh)) (keyI HM.out.1.a)
                      have HT7 : Bx (HtB w w7 S (some ⟨pb, off, none⟩) l cap fi k (j + 1) (j + 1) (stepH ⟨c, a, b⟩ j s) v') := ⟨by rw [← comF_put] at hm7; obtain ⟨y1, y2, y3, y4, y5, y6⟩ := HT6.out.turn HA.out.1 ht7 hm7; exact ⟨y1, y2, y3, by rw [HST.out]; exact y4, y5, y6⟩⟩
                      clear hm7 ht7
                      go_wp2_with fail
                      exact ⟨⟨j + 1, stepH ⟨c, a, b⟩ j s, by omega, by rw [Int.natCast_succ], congrArg (Value.int IntKind.i64) HHi.out.symm, ⟨HT7.out, HN.out, HP.out.1, HP.out.2⟩⟩, by simp only [intOf]; omega⟩
                    · have HST : Bx ((stepH ⟨c, a, b⟩ j s).com = putF (delF s.com j) a (-1)) := ⟨by rw [HJ.out, HUU.out]; rfl⟩
                      go_wp2_with fail
                      refine (kj _).mono ?_
                      rintro e w7 ⟨rfl, rfl⟩
                      clear kj
                      obtain ⟨w7, hrun, hm7, ht7⟩ := (show MapAt Tryz.prog w6 3 (S + 1) j (comF (delF s.com j)) from HT6.out.map).store lawI Tryz.underlying122 (by unfold maxLen; omega) (.int .i64 (-1)) (keyI HM.out.1.a)
                      have HT7 : Bx (HtB w w7 S (some ⟨pb, off, none⟩) l cap fi k (j + 1) (j + 1) (stepH ⟨c, a, b⟩ j s) v') := ⟨by rw [← comF_put] at hm7; obtain ⟨y1, y2, y3, y4, y5, y6⟩ := HT6.out.turn HA.out.1 ht7 hm7; exact ⟨y1, y2, y3, by rw [HST.out]; exact y4, y5, y6⟩⟩
                      clear hm7 ht7
                      go_wp2_with fail
                      exact ⟨⟨j + 1, stepH ⟨c, a, b⟩ j s, by omega, by rw [Int.natCast_succ], congrArg (Value.int IntKind.i64) HHi.out.symm, ⟨HT7.out, HN.out, HP.out.1, HP.out.2⟩⟩, by simp only [intOf]; omega⟩
              · refine wp_region_quiet_below (by kernel_rfl) (by kernel_rfl) ?_
                repeat (go_big_quiet_step (first | (go_at_call 80; with_reducible exact Calls.regrown_of (kl _ _))))
                refine wpQuiet_nil ?_
                intro _ hw'
                obtain ⟨⟨dq, osq⟩, hw''⟩ := hw'
                subst hw''
                have HT6 : Bx _ := ⟨HT5.out.step (below_regrown w5 dq osq)⟩
                have HC6 : Bx _ := ⟨HC5.out.below (below_regrown w5 dq osq)⟩
                clear kl qr0 qi0 qm0 qm1 qm2 hZ hBh
                generalize Go.Sort.grow (redrawn w5 dq) osq = w6 at *
                have HE : Bx (R = .inl j) := ⟨heiF_bad HI.out.2.1 HF.out (by rw [HU.out, HBd.out]; rfl)⟩
                go_wp2
                go_ret2
                exact ⟨_, rfl, by rw [HE.out]; rfl, by rw [HZ.out]; exact HT6.out.below⟩
          · refine wp_region_quiet_below (by kernel_rfl) (by kernel_rfl) ?_
            repeat (go_big_quiet_step (first | (go_at_call 80; with_reducible exact Calls.regrown_of (kl _ _))))
            refine wpQuiet_nil ?_
            intro _ hw'
            obtain ⟨⟨dq, osq⟩, hw''⟩ := hw'
            subst hw''
            have HT6 : Bx _ := ⟨HT5.out.step (below_regrown w5 dq osq)⟩
            have HC6 : Bx _ := ⟨HC5.out.below (below_regrown w5 dq osq)⟩
            clear kl qr0 qi0 qm0 qm1 qm2 hZ hBh
            generalize Go.Sort.grow (redrawn w5 dq) osq = w6 at *
            have HE : Bx (R = .inl j) := ⟨heiF_bad HI.out.2.1 HF.out (by rw [HU.out, HBd.out]; rfl)⟩
            go_wp2
            go_ret2
            exact ⟨_, rfl, by rw [HE.out]; rfl, by rw [HZ.out]; exact HT6.out.below⟩
        · refine wp_region_quiet_below (by kernel_rfl) (by kernel_rfl) ?_
          repeat (go_big_quiet_step (first | (go_at_call 80; with_reducible exact Calls.regrown_of (kl _ _))))
          refine wpQuiet_nil ?_
          intro _ hw'
          obtain ⟨⟨dq, osq⟩, hw''⟩ := hw'
          subst hw''
          have HT6 : Bx _ := ⟨HT5.out.step (below_regrown w5 dq osq)⟩
          have HC6 : Bx _ := ⟨HC5.out.below (below_regrown w5 dq osq)⟩
          clear kl qr0 qi0 qm0 qm1 qm2 hZ hBh
          generalize Go.Sort.grow (redrawn w5 dq) osq = w6 at *
          have HE : Bx (R = .inl j) := ⟨heiF_bad HI.out.2.1 HF.out (by rw [HU.out, HBd.out]; rfl)⟩
          go_wp2
          go_ret2
          exact ⟨_, rfl, by rw [HE.out]; rfl, by rw [HZ.out]; exact HT6.out.below⟩
      | some x =>
        rw [hc] at hl
        obtain ⟨E, hE⟩ : ∃ E, (x != s.high) = E := ⟨_, rfl⟩
        have hE2 : (!(x == s.high)) = E := hE
        have HU : Bx (unlike (s.com (j : Int)) s.high = E) := ⟨by rw [hc]; exact hE⟩
        clear hc
        cases E
        · go_wp2_with (first | (at_delete; refine wpList_drop_at _ rfl (.tmp 44) (.tmp 45) 122 3 rfl 3 lawI Tryz.underlying122 (S + 1) j (comF s.com) rfl HT1.out.map _ _ rfl (keyI (by unfold i64B; omega)) ?_; intro w2 hm2 ht2; have HT2 : Bx (HtB w w2 S (some ⟨pb, off, none⟩) l cap fi k j j ⟨s.high, delF s.com j, s.out⟩ u5) := ⟨by rw [← comF_del] at hm2; obtain ⟨y1, y2, y3, y4, y5, y6⟩ := HT1.out.turn HA.out.1 ht2 hm2; exact ⟨y1, y2, y3, y4, y5, y6⟩⟩; have HC2 : Bx _ := ⟨HC1.out.grown ht2.grown (by intro e; injection e with e; have := HSz.out; omega)⟩; clear hm2 ht2 m2 hl) | (at_builtin; refine wpList_append_own _ rfl _ _ 62 rfl (S + 2) 3 i0 (.int .i64 0) 1 8 Tryz.underlying62 HI0.out.1 HI0.out.2.1 HI0.out.2.2.1 HI0.out.2.2.2 rfl (by decide) u5 j (intC s.out) rfl (HT2.out.out.alloc _) ⟨w2.heap.size, 0, none⟩ 1 1 [.int .i64 s.high] rfl rfl (newsI w2 _ _) (oneI _) (by unfold maxLen; omega) (by omega) (by have := HT2.out.sz; simp only [heap_push, Array.size_push]; omega) ?_; intro v' w3 hown hg _; have HT3 : Bx (HtB w w3 S (some ⟨pb, off, none⟩) l cap fi k j (j + 1) ⟨s.high, delF s.com j, s.out ++ [s.high]⟩ v') := ⟨by obtain ⟨y1, y2, y3, y4, y6⟩ := (HT2.out.step (below1 w2 (.cells #[.int .i64 s.high] 3))).grow HA.out.1 hg; exact ⟨y1, y2, y3, y4, by rw [intC_snoc]; exact hown, y6⟩⟩; have HC3 : Bx _ := ⟨(HC2.out.below (below1 w2 (.cells #[.int .i64 s.high] 3))).grown hg (fun e => Nat.lt_irrefl _ (HOl.out _ e))⟩; clear hown hg; obtain ⟨m0, m1, m2⟩ := HT3.out.m; have n0 := HC3.out.at 0 _ rfl) | fail)
          obtain ⟨T, hT⟩ : ∃ T, takesC c = T := ⟨_, rfl⟩
          obtain ⟨U, hU⟩ : ∃ U, putsC c = U := ⟨_, rfl⟩
          have HTU : Bx (takesC c = T ∧ putsC c = U) := ⟨hT, hU⟩
          obtain ⟨tb1, tb2, tb3, tb4⟩ := takes_bd c
          rw [hT] at tb1 tb2
          rw [hU] at tb3 tb4
          have kof := of_yes (some ⟨pb, off, none⟩) l.length cap fi k c HM.out.1.c HM.out.2
          rw [hT, hU] at kof
          clear hT hU
          generalize okC true c = X3 at kof
          generalize okC false c = X4 at kof
          refine (kof _).mono ?_
          rintro e w4 ⟨rfl, hb⟩
          have HT5 : Bx _ := ⟨(HT3.out.step hb).step (below1 w4 (.cells #[.int .i64 T, .int .i64 U, .bool X3, .bool X4] 126))⟩
          have HC5 : Bx _ := ⟨(HC3.out.below hb).below (below1 w4 (.cells #[.int .i64 T, .int .i64 U, .bool X3, .bool X4] 126))⟩
          have HR5 : Bx _ := ⟨CB.new w4 #[.int .i64 T, .int .i64 U, .bool X3, .bool X4] 126⟩
          clear hb m0 m1 m2 n0 kof HT3 HC3 HT2 HC2
          go_upto_region 14 with (fail)
          generalize (w4.alloc (.cells #[.int .i64 T, .int .i64 U, .bool X3, .bool X4] 126)) = w5 at *
          generalize w4.heap.size = B2 at *
          have r0 := HR5.out.at 0 _ rfl
          have r1 := HR5.out.at 1 _ rfl
          have HH : Bx (0 ≤ s.high ∧ s.high ≤ 200) := ⟨HI.out.2.2⟩
          have hh1 := HH.out.1
          have hh2 := HH.out.2
          obtain ⟨Bh, hBh⟩ : ∃ Bh, s.high - T + U = Bh := ⟨_, rfl⟩
          have HBh : Bx (behindC c s.high = Bh) := ⟨by unfold behindC; rw [HTU.out.1, HTU.out.2]; exact hBh⟩
          have HHi : Bx ((stepH ⟨c, a, b⟩ j s).high = Bh) := ⟨HBh.out⟩
          obtain ⟨X, hX⟩ : ∃ X, decide (s.high < T) = X := ⟨_, rfl⟩
          obtain ⟨Y, hY⟩ : ∃ Y, decide (200 < Bh) = Y := ⟨_, rfl⟩
          obtain ⟨Z, hZ⟩ : ∃ Z, (((c : Int) == ((lastC fi : Nat) : Int)) : Bool) = Z := ⟨_, rfl⟩
          obtain ⟨W, hW⟩ : ∃ W, (Bh != 0) = W := ⟨_, rfl⟩
          have hW2 : (!(Bh == 0)) = W := hW
          have HBd : Bx (badH ⟨c, a, b⟩ s.high = (X || Y || (Z && W))) := ⟨by
            have he : endC c = (c == lastC fi) := by rw [Bool.eq_iff_iff, okC_end HM.out.2]; simp
            unfold badH
            rw [show behindC c s.high = Bh from HBh.out, HTU.out.1, hX, he, show (c == lastC fi) = Z by rw [← hZ]; exact (beq_code _ _).symm, hW, show decide (Bh > 200) = Y from hY]⟩
          have HP0 : Bx (X = false → Y = false → 0 ≤ Bh ∧ Bh ≤ 200) := ⟨fun h1 h2 => by rw [h1] at hX; rw [h2] at hY; simp at hX hY; omega⟩
          have kl : ∀ d os, Calls Tryz.prog 80 #[machV (some ⟨pb, off, none⟩) l.length cap fi (k : Int)] (Go.Sort.grow (redrawn w5 d) os) _ := fun d os => last_any _ _ _ fi (k : Int) _
          generalize lastC fi = LC at kl hZ
          obtain ⟨m0, m1, m2⟩ := HT5.out.m
          have i0 := HC5.out.at 0 _ rfl
          have qr0 := cell_regrown r0
          have qi0 := cell_regrown i0
          have qm0 := cell_regrown m0
          have qm1 := cell_regrown m1
          have qm2 := cell_regrown m2
          go_wp2_with fail
          clear r0 r1 i0 m0 m1 m2
          cases X
          · cases Y
            · have HP : Bx (0 ≤ (stepH ⟨c, a, b⟩ j s).high ∧ (stepH ⟨c, a, b⟩ j s).high ≤ 200) := ⟨by rw [HHi.out]; exact HP0.out rfl rfl⟩
              cases Z
              · refine wp_region_quiet_below (by kernel_rfl) (by kernel_rfl) ?_
                repeat (go_big_quiet_step (first | (go_at_call 80; with_reducible exact Calls.regrown_of (kl _ _))))
                refine wpQuiet_nil ?_
                intro _ hw'
                obtain ⟨⟨dq, osq⟩, hw''⟩ := hw'
                subst hw''
                have HT6 : Bx _ := ⟨HT5.out.step (below_regrown w5 dq osq)⟩
                have HC6 : Bx _ := ⟨HC5.out.below (below_regrown w5 dq osq)⟩
                clear kl qr0 qi0 qm0 qm1 qm2 hZ hBh
                generalize Go.Sort.grow (redrawn w5 dq) osq = w6 at *
                have HN : Bx _ := ⟨heiF_go HI.out.2.1 HF.out (by rw [HU.out, HBd.out]; rfl)⟩
                have i0 := HC6.out.at 0 _ rfl
                have i1 := HC6.out.at 1 _ rfl
                have kj := fun w => jumps_any c w
                cases hJ : jumpC c with
                | false =>
                  rw [hJ] at kj
                  have HST : Bx ((stepH ⟨c, a, b⟩ j s).com = delF s.com j) := ⟨by show jumpedF _ _ _ = _; unfold jumpedF; rw [if_neg (by rw [hJ]; simp)]⟩
                  clear hJ
                  go_wp2_with fail
                  refine (kj _).mono ?_
                  rintro e w7 ⟨rfl, rfl⟩
                  have HT7 : Bx (HtB w w6 S (some ⟨pb, off, none⟩) l cap fi k (j + 1) (j + 1) (stepH ⟨c, a, b⟩ j s) v') := ⟨by obtain ⟨y1, y2, y3, y4, y5, y6⟩ := HT6.out; exact ⟨y1, y2, y3, by rw [HST.out]; exact y4.mono (by omega), y5, y6⟩⟩
                  clear kj i0 i1
                  go_wp2_with fail
                  exact ⟨⟨j + 1, stepH ⟨c, a, b⟩ j s, by omega, by rw [Int.natCast_succ], congrArg (Value.int IntKind.i64) HHi.out.symm, ⟨HT7.out, HN.out, HP.out.1, HP.out.2⟩⟩, by simp only [intOf]; omega⟩
                | true =>
                  rw [hJ] at kj
                  have HJ : Bx ((stepH ⟨c, a, b⟩ j s).com = putF (delF s.com j) a (if unlike (delF s.com j a) Bh then -1 else Bh)) := ⟨by show jumpedF _ _ _ = _; unfold jumpedF; rw [if_pos hJ, show behindC c s.high = Bh from HBh.out]⟩
                  clear hJ
                  have hl := (com_look (c := delF s.com j) (z := a) HT6.out.map HM.out.1.a).1
                  cases hc : (delF s.com j) a with
                  | none =>
                    rw [hc] at hl
                    have HST : Bx ((stepH ⟨c, a, b⟩ j s).com = putF (delF s.com j) a Bh) := ⟨by rw [HJ.out, hc]; rfl⟩
                    clear hc
                    go_wp2_with fail
                    refine (kj _).mono ?_
                    rintro e w7 ⟨rfl, rfl⟩
                    clear kj
                    obtain ⟨w7, hrun, hm7, ht7⟩ := (show MapAt Tryz.prog w6 3 (S + 1) j (comF (delF s.com j)) from HT6.out.map).store lawI Tryz.underlying122 (by unfold maxLen; omega) (.int .i64 (Bh)) (keyI HM.out.1.a)
                    have HT7 : Bx (HtB w w7 S (some ⟨pb, off, none⟩) l cap fi k (j + 1) (j + 1) (stepH ⟨c, a, b⟩ j s) v') := ⟨by rw [← comF_put] at hm7; obtain ⟨y1, y2, y3, y4, y5, y6⟩ := HT6.out.turn HA.out.1 ht7 hm7; exact ⟨y1, y2, y3, by rw [HST.out]; exact y4, y5, y6⟩⟩
                    clear hm7 ht7
                    go_wp2_with fail
                    exact ⟨⟨j + 1, stepH ⟨c, a, b⟩ j s, by omega, by rw [Int.natCast_succ], congrArg (Value.int IntKind.i64) HHi.out.symm, ⟨HT7.out, HN.out, HP.out.1, HP.out.2⟩⟩, by simp only [intOf]; omega⟩
                  | some x =>
                    rw [hc] at hl
                    obtain ⟨E, hE⟩ : ∃ E, (x != Bh) = E := ⟨_, rfl⟩
                    have hE2 : (!(x == Bh)) = E := hE
                    have HUU : Bx (unlike (delF s.com j a) Bh = E) := ⟨by rw [hc]; exact hE⟩
                    clear hc
                    cases E
                    · have HST : Bx ((stepH ⟨c, a, b⟩ j s).com = putF (delF s.com j) a Bh) := ⟨by rw [HJ.out, HUU.out]; rfl⟩
                      go_wp2_with fail
                      refine (kj _).mono ?_
                      rintro e w7 ⟨rfl, rfl⟩
                      clear kj
                      obtain ⟨w7, hrun, hm7, ht7⟩ := (show MapAt Tryz.prog w6 3 (S + 1) j (comF (delF s.com j)) from HT6.out.map).store lawI Tryz.underlying122 (by unfold maxLen; omega) (.int .i64 (Bh)) (keyI HM.out.1.a)
                      have HT7 : Bx (HtB w w7 S (some ⟨pb, off, none⟩) l cap fi k (j + 1) (j + 1) (stepH ⟨c, a, b⟩ j s) v') := ⟨by rw [← comF_put] at hm7; obtain ⟨y1, y2, y3, y4, y5, y6⟩ := HT6.out.turn HA.out.1 ht7 hm7; exact ⟨y1, y2, y3, by rw [HST.out]; exact y4, y5, y6⟩⟩
                      clear hm7 ht7
                      go_wp2_with fail
                      exact ⟨⟨j + 1, stepH ⟨c, a, b⟩ j s, by omega, by rw [Int.natCast_succ], congrArg (Value.int IntKind.i64) HHi.out.symm, ⟨HT7.out, HN.out, HP.out.1, HP.out.2⟩⟩, by simp only [intOf]; omega⟩
                    · have HST : Bx ((stepH ⟨c, a, b⟩ j s).com = putF (delF s.com j) a (-1)) := ⟨by rw [HJ.out, HUU.out]; rfl⟩
                      go_wp2_with fail
                      refine (kj _).mono ?_
                      rintro e w7 ⟨rfl, rfl⟩
                      clear kj
                      obtain ⟨w7, hrun, hm7, ht7⟩ := (show MapAt Tryz.prog w6 3 (S + 1) j (comF (delF s.com j)) from HT6.out.map).store lawI Tryz.underlying122 (by unfold maxLen; omega) (.int .i64 (-1)) (keyI HM.out.1.a)
                      have HT7 : Bx (HtB w w7 S (some ⟨pb, off, none⟩) l cap fi k (j + 1) (j + 1) (stepH ⟨c, a, b⟩ j s) v') := ⟨by rw [← comF_put] at hm7; obtain ⟨y1, y2, y3, y4, y5, y6⟩ := HT6.out.turn HA.out.1 ht7 hm7; exact ⟨y1, y2, y3, by rw [HST.out]; exact y4, y5, y6⟩⟩
                      clear hm7 ht7
                      go_wp2_with fail
                      exact ⟨⟨j + 1, stepH ⟨c, a, b⟩ j s, by omega, by rw [Int.natCast_succ], congrArg (Value.int IntKind.i64) HHi.out.symm, ⟨HT7.out, HN.out, HP.out.1, HP.out.2⟩⟩, by simp only [intOf]; omega⟩
              · cases W
                · refine wp_region_quiet_below (by kernel_rfl) (by kernel_rfl) ?_
                  repeat (go_big_quiet_step (first | (go_at_call 80; with_reducible exact Calls.regrown_of (kl _ _))))
                  refine wpQuiet_nil ?_
                  intro _ hw'
                  obtain ⟨⟨dq, osq⟩, hw''⟩ := hw'
                  subst hw''
                  have HT6 : Bx _ := ⟨HT5.out.step (below_regrown w5 dq osq)⟩
                  have HC6 : Bx _ := ⟨HC5.out.below (below_regrown w5 dq osq)⟩
                  clear kl qr0 qi0 qm0 qm1 qm2 hZ hBh
                  generalize Go.Sort.grow (redrawn w5 dq) osq = w6 at *
                  have HN : Bx _ := ⟨heiF_go HI.out.2.1 HF.out (by rw [HU.out, HBd.out]; rfl)⟩
                  have i0 := HC6.out.at 0 _ rfl
                  have i1 := HC6.out.at 1 _ rfl
                  have kj := fun w => jumps_any c w
                  cases hJ : jumpC c with
                  | false =>
                    rw [hJ] at kj
                    have HST : Bx ((stepH ⟨c, a, b⟩ j s).com = delF s.com j) := ⟨by show jumpedF _ _ _ = _; unfold jumpedF; rw [if_neg (by rw [hJ]; simp)]⟩
                    clear hJ
                    go_wp2_with fail
                    refine (kj _).mono ?_
                    rintro e w7 ⟨rfl, rfl⟩
                    have HT7 : Bx (HtB w w6 S (some ⟨pb, off, none⟩) l cap fi k (j + 1) (j + 1) (stepH ⟨c, a, b⟩ j s) v') := ⟨by obtain ⟨y1, y2, y3, y4, y5, y6⟩ := HT6.out; exact ⟨y1, y2, y3, by rw [HST.out]; exact y4.mono (by omega), y5, y6⟩⟩
                    clear kj i0 i1
                    go_wp2_with fail
                    exact ⟨⟨j + 1, stepH ⟨c, a, b⟩ j s, by omega, by rw [Int.natCast_succ], congrArg (Value.int IntKind.i64) HHi.out.symm, ⟨HT7.out, HN.out, HP.out.1, HP.out.2⟩⟩, by simp only [intOf]; omega⟩
                  | true =>
                    rw [hJ] at kj
                    have HJ : Bx ((stepH ⟨c, a, b⟩ j s).com = putF (delF s.com j) a (if unlike (delF s.com j a) Bh then -1 else Bh)) := ⟨by show jumpedF _ _ _ = _; unfold jumpedF; rw [if_pos hJ, show behindC c s.high = Bh from HBh.out]⟩
                    clear hJ
                    have hl := (com_look (c := delF s.com j) (z := a) HT6.out.map HM.out.1.a).1
                    cases hc : (delF s.com j) a with
                    | none =>
                      rw [hc] at hl
                      have HST : Bx ((stepH ⟨c, a, b⟩ j s).com = putF (delF s.com j) a Bh) := ⟨by rw [HJ.out, hc]; rfl⟩
                      clear hc
                      go_wp2_with fail
                      refine (kj _).mono ?_
                      rintro e w7 ⟨rfl, rfl⟩
                      clear kj
                      obtain ⟨w7, hrun, hm7, ht7⟩ := (show MapAt Tryz.prog w6 3 (S + 1) j (comF (delF s.com j)) from HT6.out.map).store lawI Tryz.underlying122 (by unfold maxLen; omega) (.int .i64 (Bh)) (keyI HM.out.1.a)
                      have HT7 : Bx (HtB w w7 S (some ⟨pb, off, none⟩) l cap fi k (j + 1) (j + 1) (stepH ⟨c, a, b⟩ j s) v') := ⟨by rw [← comF_put] at hm7; obtain ⟨y1, y2, y3, y4, y5, y6⟩ := HT6.out.turn HA.out.1 ht7 hm7; exact ⟨y1, y2, y3, by rw [HST.out]; exact y4, y5, y6⟩⟩
                      clear hm7 ht7
                      go_wp2_with fail
                      exact ⟨⟨j + 1, stepH ⟨c, a, b⟩ j s, by omega, by rw [Int.natCast_succ], congrArg (Value.int IntKind.i64) HHi.out.symm, ⟨HT7.out, HN.out, HP.out.1, HP.out.2⟩⟩, by simp only [intOf]; omega⟩
                    | some x =>
                      rw [hc] at hl
                      obtain ⟨E, hE⟩ : ∃ E, (x != Bh) = E := ⟨_, rfl⟩
                      have hE2 : (!(x == Bh)) = E := hE
                      have HUU : Bx (unlike (delF s.com j a) Bh = E) := ⟨by rw [hc]; exact hE⟩
                      clear hc
                      cases E
                      · have HST : Bx ((stepH ⟨c, a, b⟩ j s).com = putF (delF s.com j) a Bh) := ⟨by rw [HJ.out, HUU.out]; rfl⟩
                        go_wp2_with fail
                        refine (kj _).mono ?_
                        rintro e w7 ⟨rfl, rfl⟩
                        clear kj
                        obtain ⟨w7, hrun, hm7, ht7⟩ := (show MapAt Tryz.prog w6 3 (S + 1) j (comF (delF s.com j)) from HT6.out.map).store lawI Tryz.underlying122 (by unfold maxLen; omega) (.int .i64 (Bh)) (keyI HM.out.1.a)
                        have HT7 : Bx (HtB w w7 S (some ⟨pb, off, none⟩) l cap fi k (j + 1) (j + 1) (stepH ⟨c, a, b⟩ j s) v') := ⟨by rw [← comF_put] at hm7; obtain ⟨y1, y2, y3, y4, y5, y6⟩ := HT6.out.turn HA.out.1 ht7 hm7; exact ⟨y1, y2, y3, by rw [HST.out]; exact y4, y5, y6⟩⟩
                        clear hm7 ht7
                        go_wp2_with fail
                        exact ⟨⟨j + 1, stepH ⟨c, a, b⟩ j s, by omega, by rw [Int.natCast_succ], congrArg (Value.int IntKind.i64) HHi.out.symm, ⟨HT7.out, HN.out, HP.out.1, HP.out.2⟩⟩, by simp only [intOf]; omega⟩
                      · have HST : Bx ((stepH ⟨c, a, b⟩ j s).com = putF (delF s.com j) a (-1)) := ⟨by rw [HJ.out, HUU.out]; rfl⟩
                        go_wp2_with fail
                        refine (kj _).mono ?_
                        rintro e w7 ⟨rfl, rfl⟩
                        clear kj
                        obtain ⟨w7, hrun, hm7, ht7⟩ := (show MapAt Tryz.prog w6 3 (S + 1) j (comF (delF s.com j)) from HT6.out.map).store lawI Tryz.underlying122 (by unfold maxLen; omega) (.int .i64 (-1)) (keyI HM.out.1.a)
                        have HT7 : Bx (HtB w w7 S (some ⟨pb, off, none⟩) l cap fi k (j + 1) (j + 1) (stepH ⟨c, a, b⟩ j s) v') := ⟨by rw [← comF_put] at hm7; obtain ⟨y1, y2, y3, y4, y5, y6⟩ := HT6.out.turn HA.out.1 ht7 hm7; exact ⟨y1, y2, y3, by rw [HST.out]; exact y4, y5, y6⟩⟩
                        clear hm7 ht7
                        go_wp2_with fail
                        exact ⟨⟨j + 1, stepH ⟨c, a, b⟩ j s, by omega, by rw [Int.natCast_succ], congrArg (Value.int IntKind.i64) HHi.out.symm, ⟨HT7.out, HN.out, HP.out.1, HP.out.2⟩⟩, by simp only [intOf]; omega⟩
                · refine wp_region_quiet_below (by kernel_rfl) (by kernel_rfl) ?_
                  repeat (go_big_quiet_step (first | (go_at_call 80; with_reducible exact Calls.regrown_of (kl _ _))))
                  refine wpQuiet_nil ?_
                  intro _ hw'
                  obtain ⟨⟨dq, osq⟩, hw''⟩ := hw'
                  subst hw''
                  have HT6 : Bx _ := ⟨HT5.out.step (below_regrown w5 dq osq)⟩
                  have HC6 : Bx _ := ⟨HC5.out.below (below_regrown w5 dq osq)⟩
                  clear kl qr0 qi0 qm0 qm1 qm2 hZ hBh
                  generalize Go.Sort.grow (redrawn w5 dq) osq = w6 at *
                  have HE : Bx (R = .inl j) := ⟨heiF_bad HI.out.2.1 HF.out (by rw [HU.out, HBd.out]; rfl)⟩
                  go_wp2
                  go_ret2
                  exact ⟨_, rfl, by rw [HE.out]; rfl, by rw [HZ.out]; exact HT6.out.below⟩
            · refine wp_region_quiet_below (by kernel_rfl) (by kernel_rfl) ?_
              repeat (go_big_quiet_step (first | (go_at_call 80; with_reducible exact Calls.regrown_of (kl _ _))))
              refine wpQuiet_nil ?_
              intro _ hw'
              obtain ⟨⟨dq, osq⟩, hw''⟩ := hw'
              subst hw''
              have HT6 : Bx _ := ⟨HT5.out.step (below_regrown w5 dq osq)⟩
              have HC6 : Bx _ := ⟨HC5.out.below (below_regrown w5 dq osq)⟩
              clear kl qr0 qi0 qm0 qm1 qm2 hZ hBh
              generalize Go.Sort.grow (redrawn w5 dq) osq = w6 at *
              have HE : Bx (R = .inl j) := ⟨heiF_bad HI.out.2.1 HF.out (by rw [HU.out, HBd.out]; rfl)⟩
              go_wp2
              go_ret2
              exact ⟨_, rfl, by rw [HE.out]; rfl, by rw [HZ.out]; exact HT6.out.below⟩
          · refine wp_region_quiet_below (by kernel_rfl) (by kernel_rfl) ?_
            repeat (go_big_quiet_step (first | (go_at_call 80; with_reducible exact Calls.regrown_of (kl _ _))))
            refine wpQuiet_nil ?_
            intro _ hw'
            obtain ⟨⟨dq, osq⟩, hw''⟩ := hw'
            subst hw''
            have HT6 : Bx _ := ⟨HT5.out.step (below_regrown w5 dq osq)⟩
            have HC6 : Bx _ := ⟨HC5.out.below (below_regrown w5 dq osq)⟩
            clear kl qr0 qi0 qm0 qm1 qm2 hZ hBh
            generalize Go.Sort.grow (redrawn w5 dq) osq = w6 at *
            have HE : Bx (R = .inl j) := ⟨heiF_bad HI.out.2.1 HF.out (by rw [HU.out, HBd.out]; rfl)⟩
            go_wp2
            go_ret2
            exact ⟨_, rfl, by rw [HE.out]; rfl, by rw [HZ.out]; exact HT6.out.below⟩
        · have HE : Bx (R = .inl j) := ⟨heiF_bad HI.out.2.1 HF.out (by rw [HU.out]; rfl)⟩
          go_wp2
          go_ret2
          exact ⟨_, rfl, by rw [HE.out]; rfl, by rw [HZ.out]; exact HBB.out⟩
    · obtain rfl : j = l.length := by omega
      have HE : Bx (R = .inr s.out) := ⟨by
        have h := HI.out.2.1
        rw [List.drop_length] at h
        exact h.symm⟩
      have HL : Bx (s.out.length = l.length) := ⟨by
        have h := HI.out.1.out.1
        rw [Nat.mul_one] at h
        rw [← h]; unfold intC; rw [List.length_map]⟩
      have HO : Bx (wr.ownsRow S 3 1 u5 s.out.length (intC s.out)) := ⟨by
        rw [HL.out]
        obtain ⟨h1, h2 | ⟨g, cp, cur, h2, h3, h4⟩⟩ := HI.out.1.out
        · exact ⟨h1, Or.inl h2⟩
        · exact ⟨h1, Or.inr ⟨g, cp, cur, h2, by omega, h4⟩⟩⟩
      have HBB : Bx (Below S w wr) := ⟨HI.out.1.below⟩
      clear HI
      go_wp2_with fail
      go_ret2
      exact ⟨_, rfl, by rw [HE.out]; exact ⟨_, rfl, by rw [HZ.out]; exact HO.out⟩, by rw [HZ.out]; exact HBB.out⟩
end Go.Proofs.YtbcajmkmadgbhaaGreatDoor
