/- key's reader: Place, piece, is, must. -/
import Derived.Test.YtbaopcpmmdmomaaGreatDoorKeyUb
set_option linter.unusedSimpArgs false
set_option linter.unusedVariables false
namespace Go.Proofs.YtbaopcpmmdmomaaGreatDoor
open Go.RowKit
theorem grown_below {w w' : World} (h : Below w.heap.size w w') (row : Option Nat) : w.grownBy w' row := ⟨h.os, h.tape, h.output, h.size, fun i hi _ => h.block i hi⟩
theorem results_tt {fn : Func} {u v : Tmp} (h : fn.results = #[.tmp u, .tmp v]) (tmps : Array Value) (w : World) (a b : Value) (hu : tmps[u]?.getD undef = a) (hv : tmps[v]?.getD undef = b) :
    (results fn tmps).run Tryz.prog w = .ok (.tuple #[a, b]) w := by
  simp [results, h, go_sem, hu, hv]
theorem place_nil (w : World) : Calls Tryz.prog 59 #[.nilIface] w fun e w' => e = .returned (.tuple #[.int .i64 0, .bool false]) ∧ Below w.heap.size w w' := by
  go_enter Tryz.func59, Tryz.ntmps59
  go_wp2_with (go_at_call 67; refine (as_nil _ _).mono ?_; rintro e w' ⟨rfl, rfl⟩)
  exact bodyPost_ret (results_tt rfl _ _ _ _ rfl rfl) rfl ⟨rfl, below1 _ _⟩
theorem place_at (p c : Int) (w : World) (hG : Glob w) : Calls Tryz.prog 59 #[atV p c] w fun e w' => e = .returned (.tuple #[.int .i64 p, .bool true]) ∧ Below w.heap.size w w' := by
  have ka := as_AA p c w.heap.size (.int .i64 0) .nilIface (w.alloc (.cells #[.int .i64 0, .nilIface] 183)) (hG.below (below1 _ _) hG.lt) (by rw [World.cell?_alloc_at _ _ _ _ rfl]; rfl) (by rw [World.cell?_alloc_at _ _ _ _ rfl]; rfl) (fun i => by simp)
  go_enter Tryz.func59, Tryz.ntmps59
  go_wp2_with fail
  refine ka.mono ?_
  rintro e w1 ⟨rfl, h0, h1, hg⟩
  have hb : Below w.heap.size w w1 := (below1 w _).trans (below_of_grown hg (Nat.le_refl _) (by simp))
  clear ka hg
  go_wp2
  exact bodyPost_ret (results_tt rfl _ _ _ _ rfl rfl) rfl ⟨rfl, hb⟩
/-- an error's value, by its place -/
def errO : Option Nat → Value
  | none => .nilIface
  | some p => atV p 53
/-- a reader in its box -/
structure RD (w : World) (R : Nat) (l : List UInt8) (k : Nat) (e : Option Nat) : Prop where
  lt : R < w.heap.size
  c0 : w.cell? ⟨R, 0, none⟩ = some (strV l)
  c1 : w.cell? ⟨R, 1, none⟩ = some (.int .i64 k)
  c2 : w.cell? ⟨R, 2, none⟩ = some (errO e)
  f : ∀ i, w.frozen? ⟨R, i, none⟩ = false
theorem RD.step {w w' : World} {R k : Nat} {l : List UInt8} {e : Option Nat} (g : RD w R l k e) (hb : Below w.heap.size w w') : RD w' R l k e where
  lt := Nat.lt_of_lt_of_le g.lt hb.size
  c0 := by rw [hb.cell (p := ⟨R, 0, none⟩) g.lt]; exact g.c0
  c1 := by rw [hb.cell (p := ⟨R, 1, none⟩) g.lt]; exact g.c1
  c2 := by rw [hb.cell (p := ⟨R, 2, none⟩) g.lt]; exact g.c2
  f := fun i => by rw [hb.frozen (p := ⟨R, i, none⟩) g.lt]; exact g.f i
theorem RD.far {w w' : World} {R B k : Nat} {l : List UInt8} {e : Option Nat} (g : RD w R l k e) (hb : w.grownBy w' (some B)) (hne : R ≠ B) : RD w' R l k e where
  lt := Nat.lt_of_lt_of_le g.lt hb.size
  c0 := hb.cell g.c0 (by simpa using hne)
  c1 := hb.cell g.c1 (by simpa using hne)
  c2 := hb.cell g.c2 (by simpa using hne)
  f := fun i => by rw [hb.frozen_far ⟨R, i, none⟩ g.lt (by simpa using hne)]; exact g.f i
theorem RD.setAt {w : World} {R k : Nat} {l : List UInt8} {e : Option Nat} (g : RD w R l k e) (k' : Nat) (v : Value) (hv : v = .int .i64 k') : RD (w.setCell ⟨R, 1, none⟩ v) R l k' e where
  lt := by rw [size_set]; exact g.lt
  c0 := cell_set_ne g.c0 (by omega)
  c1 := by rw [hv]; exact cell_set_eq g.c1
  c2 := cell_set_ne g.c2 (by omega)
  f := fun i => by rw [World.frozen?_setCell]; exact g.f i
theorem RD.setErr {w : World} {R k : Nat} {l : List UInt8} {e : Option Nat} (g : RD w R l k e) (e' : Option Nat) (v : Value) (hv : v = errO e') : RD (w.setCell ⟨R, 2, none⟩ v) R l k e' where
  lt := by rw [size_set]; exact g.lt
  c0 := cell_set_ne g.c0 (by omega)
  c1 := cell_set_ne g.c1 (by omega)
  c2 := by rw [hv]; exact cell_set_eq g.c2
  f := fun i => by rw [World.frozen?_setCell]; exact g.f i
/-- what piece reads: its text, the place behind it, the error -/
def pcR (l : List UInt8) (k : Nat) : Option Nat → List UInt8 × Nat × Option Nat
  | some p => ([], k, some p)
  | none => match unL (l.drop k) with
    | (true, n, o) => (o, k + n, none)
    | (false, n, _) => ([], k, some (k + n))
theorem unR_le {l : List UInt8} : ∀ (f i : Nat) (o : List UInt8), i ≤ l.length → o.length ≤ i → (unR l f i o).2.1 ≤ l.length ∧ (unR l f i o).2.2.length ≤ (unR l f i o).2.1
  | 0, i, o, h, ho => ⟨h, ho⟩
  | f + 1, i, o, h, ho => by
    unfold unR
    split
    · rename_i hc
      split
      · split
        · rename_i hc2
          exact unR_le f (i + 2) _ (by omega) (by simp; omega)
        · exact ⟨h, ho⟩
      · exact unR_le f (i + 1) _ (by omega) (by simp; omega)
    · exact ⟨h, ho⟩
theorem unL_le (l : List UInt8) : (unL l).2.1 ≤ l.length ∧ (unL l).2.2.length ≤ (unL l).2.1 := unR_le _ 0 [] (by omega) (by simp)
theorem extract_drop {l : List UInt8} {k : Nat} : (⟨l.toArray⟩ : ByteArray).extract k l.length = ⟨(l.drop k).toArray⟩ := by
  apply ByteArray.ext
  simp [ByteArray.data_extract]
  exact List.take_of_length_le (by rw [List.length_drop]; omega)
set_option maxHeartbeats 4000000 in
set_option maxRecDepth 100000 in
theorem piece_any (R : Nat) (l : List UInt8) (k : Nat) (e : Option Nat) (w : World) (h : RD w R l k e) (hG : Glob w) (hR : 0 < R) (hk : k ≤ l.length) (hl : l.length ≤ 1048576) :
    Calls Tryz.prog 19 #[.pointer (some ⟨R, 0, none⟩)] w fun ev w' => ev = .returned (strV (pcR l k e).1) ∧ w.grownBy w' (some R) ∧ RD w' R l (pcR l k e).2.1 (pcR l k e).2.2 := by
  have H : Bx _ := ⟨h⟩
  have c0 := h.c0
  have c1 := h.c1
  have c2 := h.c2
  have cf := h.f
  have olt := h.lt
  cases e with
  | some p =>
    unfold errO at c2
    go_enter Tryz.func19, Tryz.ntmps19
    go_wp2
    go_ret
    exact ⟨rfl, grown_refl _ _, H.out⟩
  | none =>
    unfold errO at c2
    have hex := extract_drop (l := l) (k := k)
    have hun := unL_le (l.drop k)
    rw [List.length_drop] at hun
    have ku : ∀ d os, Calls Tryz.prog 58 #[strV (l.drop k)] (Go.Sort.grow (redrawn w d) os) _ := fun d os => unescape_any (l.drop k) _ (by rw [List.length_drop]; omega)
    have hp : pcR l k none = match unL (l.drop k) with | (true, n, o) => (o, k + n, none) | (false, n, _) => ([], k, some (k + n)) := rfl
    have HGw : Bx (Glob w) := ⟨hG⟩
    generalize unL (l.drop k) = Z at *
    obtain ⟨ok, n, o⟩ := Z
    simp only at hun
    have q0 := cell_regrown c0
    have q1 := cell_regrown c1
    clear h hG
    cases ok
    · have HP2 : Bx (pcR l k none = ([], k, some (k + n))) := ⟨hp⟩
      clear hp
      unfold unV at ku
      go_enter Tryz.func19, Tryz.ntmps19
      go_wp2_with fail
      refine wp_region_quiet_below (by kernel_rfl) (by kernel_rfl) ?_
      repeat (go_big_quiet_step (first | (go_at_call 58; with_reducible exact Calls.regrown_of (ku _ _))))
      refine wpQuiet_nil ?_
      intro _ hw'
      obtain ⟨⟨dq, osq⟩, hw''⟩ := hw'
      subst hw''
      have hb := below_regrown w dq osq
      have H1 := H.out.step hb
      generalize Go.Sort.grow (redrawn w dq) osq = w1 at *
      clear q0 q1 ku hex c0 c1 c2 cf olt H
      go_wp2_with fail
      refine (place_at n 53 _ (HGw.out.below hb HGw.out.lt)).mono ?_
      rintro e w2 ⟨rfl, h2⟩
      have H2 := H1.step h2
      have HB2 : Bx (Below w.heap.size w w2 ∧ RD w2 R l k none) := ⟨hb.trans (h2.mono hb.size), H2⟩
      have c0 := H2.c0
      have c1 := H2.c1
      have c2 := H2.c2
      have cf := H2.f
      have olt := H2.lt
      unfold errO at c2
      clear H1 H2 h2 hb
      go_wp2_with (go_at_call 60; refine (at_any _ 53 _ (by decide)).mono ?_; rintro e w3 ⟨rfl, rfl⟩)
      go_ret
      rw [HP2.out]
      exact ⟨rfl, grown_setCell (g := R) (p := ⟨R, 1, none⟩) (grown_setCell (g := R) (p := ⟨R, 2, none⟩) (grown_below HB2.out.1 _) rfl _) rfl _, (HB2.out.2.setErr (some (k + n)) _ (by simp [errO])).setAt k _ (by simp)⟩
    · have HP2 : Bx (pcR l k none = (o, k + n, none)) := ⟨hp⟩
      clear hp
      unfold unV at ku
      go_enter Tryz.func19, Tryz.ntmps19
      go_wp2_with fail
      refine wp_region_quiet_below (by kernel_rfl) (by kernel_rfl) ?_
      repeat (go_big_quiet_step (first | (go_at_call 58; with_reducible exact Calls.regrown_of (ku _ _))))
      refine wpQuiet_nil ?_
      intro _ hw'
      obtain ⟨⟨dq, osq⟩, hw''⟩ := hw'
      subst hw''
      have hb := below_regrown w dq osq
      have H1 := H.out.step hb
      generalize Go.Sort.grow (redrawn w dq) osq = w1 at *
      clear q0 q1 ku hex c0 c1 c2 cf olt H
      go_wp2_with fail
      refine (place_nil _).mono ?_
      rintro e w2 ⟨rfl, h2⟩
      have H2 := H1.step h2
      have HB2 : Bx (Below w.heap.size w w2 ∧ RD w2 R l k none) := ⟨hb.trans (h2.mono hb.size), H2⟩
      have c0 := H2.c0
      have c1 := H2.c1
      have c2 := H2.c2
      have cf := H2.f
      have olt := H2.lt
      clear H1 H2 h2 hb
      go_wp2
      go_ret
      rw [HP2.out]
      exact ⟨rfl, grown_setCell (g := R) (p := ⟨R, 1, none⟩) (grown_below HB2.out.1 _) rfl _, HB2.out.2.setAt (k + n) _ (by simp)⟩
/-- does this byte stand next? -/
def isR (l : List UInt8) (k : Nat) (e : Option Nat) (c : UInt8) : Bool := e.isNone && decide (k < l.length) && l.getD k 0 == c
/-- the place behind it -/
def isK (l : List UInt8) (k : Nat) (e : Option Nat) (c : UInt8) : Nat := if isR l k e c then k + 1 else k
theorem byte_eq (a c : UInt8) (n : Nat) (h : c.toNat = n) : (((a.toNat : Int) == (n : Int)) : Bool) = (a == c) := by
  have hc : c = UInt8.ofNat n := by rw [← h]; simp
  rw [hc]
  exact beq_byte a n (by rw [← h]; exact c.toNat_lt)
set_option maxHeartbeats 4000000 in
set_option maxRecDepth 100000 in
theorem is_any (R : Nat) (l : List UInt8) (k : Nat) (e : Option Nat) (c : UInt8) (w : World) (h : RD w R l k e) (hk : k ≤ l.length) (hl : l.length ≤ 1048576) :
    Calls Tryz.prog 20 #[.pointer (some ⟨R, 0, none⟩), .int .u8 (c.toNat : Int)] w fun ev w' => ev = .returned (.bool (isR l k e c)) ∧ w.grownBy w' (some R) ∧ RD w' R l (isK l k e c) e := by
  have H : Bx _ := ⟨h⟩
  have q0 := cell_regrown h.c0
  have q1 := cell_regrown h.c1
  have q2 := cell_regrown h.c2
  have olt := h.lt
  clear h
  cases e with
  | some p =>
    have HI : Bx (isR l k (some p) c = false ∧ isK l k (some p) c = k) := ⟨rfl, rfl⟩
    unfold errO at q2
    go_enter Tryz.func20, Tryz.ntmps20
    go_wp2_with fail
    refine wp_region_quiet_below (by kernel_rfl) (by kernel_rfl) ?_
    repeat (go_big_quiet_step (fail))
    refine wpQuiet_nil ?_
    intro _ hw'
    obtain ⟨⟨dq, osq⟩, hw''⟩ := hw'
    subst hw''
    have hb := below_regrown w dq osq
    have HF : Bx (w.grownBy (Go.Sort.grow (redrawn w dq) osq) (some R) ∧ RD (Go.Sort.grow (redrawn w dq) osq) R l k (some p)) := ⟨grown_below hb _, H.out.step hb⟩
    clear hb q0 q1 q2 H
    generalize Go.Sort.grow (redrawn w dq) osq = w1 at *
    go_wp2
    go_ret
    exact ⟨by rw [HI.out.1]; rfl, HF.out.1, by rw [HI.out.2]; exact HF.out.2⟩
  | none =>
    unfold errO at q2
    by_cases hlt : k < l.length
    · obtain ⟨a, ha⟩ : ∃ a, l.getD k 0 = a := ⟨_, rfl⟩
      have hak : ((⟨l.toArray⟩ : ByteArray)[k]'(by simpa [ByteArray.size] using hlt)) = a := by rw [getD_toArray' hlt, ha]
      have hne : ((k : Int) == (l.length : Int)) = false := by simp; omega
      have hac : (((a.toNat : Int) == (c.toNat : Int)) : Bool) = (a == c) := byte_eq a c _ rfl
      have hI : isR l k none c = (a == c) := by unfold isR; rw [ha]; simp [hlt]
      have HI : Bx (isR l k none c = (a == c) ∧ isK l k none c = if a == c then k + 1 else k) := ⟨hI, by unfold isK; rw [hI]⟩
      clear hI
      clear ha
      generalize (a == c) = t at *
      go_enter Tryz.func20, Tryz.ntmps20
      go_wp2_with fail
      refine wp_region_quiet_below (by kernel_rfl) (by kernel_rfl) ?_
      repeat (go_big_quiet_step (fail))
      refine wpQuiet_nil ?_
      intro _ hw'
      obtain ⟨⟨dq, osq⟩, hw''⟩ := hw'
      subst hw''
      have hb := below_regrown w dq osq
      have HF : Bx (w.grownBy (Go.Sort.grow (redrawn w dq) osq) (some R) ∧ RD (Go.Sort.grow (redrawn w dq) osq) R l k none) := ⟨grown_below hb _, H.out.step hb⟩
      clear hb q0 q1 q2 H
      generalize Go.Sort.grow (redrawn w dq) osq = w1 at *
      have c0 := HF.out.2.c0
      have c1 := HF.out.2.c1
      have c2 := HF.out.2.c2
      have cf := HF.out.2.f
      have olt1 := HF.out.2.lt
      cases t
      · have HI2 : Bx (isR l k none c = false ∧ isK l k none c = k) := ⟨HI.out.1, by rw [HI.out.2]; rfl⟩
        clear HI
        go_wp2
        go_ret
        exact ⟨by rw [HI2.out.1]; rfl, HF.out.1, by rw [HI2.out.2]; exact HF.out.2⟩
      · have HI2 : Bx (isR l k none c = true ∧ isK l k none c = k + 1) := ⟨HI.out.1, by rw [HI.out.2]; rfl⟩
        clear HI
        go_wp2
        go_ret
        exact ⟨by rw [HI2.out.1]; rfl, grown_setCell (g := R) (p := ⟨R, 1, none⟩) HF.out.1 rfl _, by rw [HI2.out.2]; exact HF.out.2.setAt (k + 1) _ (by simp)⟩
    · obtain rfl : k = l.length := by omega
      have HI : Bx (isR l l.length none c = false ∧ isK l l.length none c = l.length) := ⟨by unfold isR; simp, by unfold isK isR; simp⟩
      go_enter Tryz.func20, Tryz.ntmps20
      go_wp2_with fail
      refine wp_region_quiet_below (by kernel_rfl) (by kernel_rfl) ?_
      repeat (go_big_quiet_step (fail))
      refine wpQuiet_nil ?_
      intro _ hw'
      obtain ⟨⟨dq, osq⟩, hw''⟩ := hw'
      subst hw''
      have hb := below_regrown w dq osq
      have HF : Bx (w.grownBy (Go.Sort.grow (redrawn w dq) osq) (some R) ∧ RD (Go.Sort.grow (redrawn w dq) osq) R l l.length none) := ⟨grown_below hb _, H.out.step hb⟩
      clear hb q0 q1 q2 H
      generalize Go.Sort.grow (redrawn w dq) osq = w1 at *
      go_wp2
      go_ret
      exact ⟨by rw [HI.out.1]; rfl, HF.out.1, by rw [HI.out.2]; exact HF.out.2⟩
/-- the error behind must -/
def muR (k : Nat) (e : Option Nat) (ok : Bool) : Option Nat := if ok then e else match e with | none => some k | some p => some p
set_option maxHeartbeats 4000000 in
set_option maxRecDepth 100000 in
theorem must_any (R : Nat) (l : List UInt8) (k : Nat) (e : Option Nat) (ok : Bool) (w : World) (h : RD w R l k e) :
    Calls Tryz.prog 21 #[.pointer (some ⟨R, 0, none⟩), .bool ok] w fun ev w' => ev = .returned (.tuple #[]) ∧ w.grownBy w' (some R) ∧ RD w' R l k (muR k e ok) := by
  have H : Bx _ := ⟨h⟩
  have c0 := h.c0
  have c1 := h.c1
  have c2 := h.c2
  have cf := h.f
  have olt := h.lt
  clear h
  cases ok
  · cases e with
    | some p =>
      have HI : Bx (muR k (some p) false = some p) := ⟨rfl⟩
      unfold errO at c2
      go_enter Tryz.func21, Tryz.ntmps21
      go_wp2
      go_end0
      exact ⟨rfl, grown_refl _ _, by rw [HI.out]; exact H.out⟩
    | none =>
      have HI : Bx (muR k none false = some k) := ⟨rfl⟩
      unfold errO at c2
      go_enter Tryz.func21, Tryz.ntmps21
      go_wp2_with (go_at_call 60; refine (at_any _ 53 _ (by decide)).mono ?_; rintro e w3 ⟨rfl, rfl⟩)
      go_end0
      exact ⟨rfl, grown_setCell (g := R) (p := ⟨R, 2, none⟩) (grown_refl _ _) rfl _, by rw [HI.out]; exact H.out.setErr (some k) _ rfl⟩
  · have HI : Bx (muR k e true = e) := ⟨rfl⟩
    go_enter Tryz.func21, Tryz.ntmps21
    go_wp2
    go_end0
    exact ⟨rfl, grown_refl _ _, by rw [HI.out]; exact H.out⟩
end Go.Proofs.YtbaopcpmmdmomaaGreatDoor
