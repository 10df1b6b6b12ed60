/- The heap: List, Sorted: contracts. -/
import Derived.Test.YtlodgmmhaolmaaaDoorHpS
import Derived.Test.YtlodgmmhaolmaaaDoorShelf
import Derived.Shelf.SlSortCmp.WholeK
import Derived.Shelf.SlSortCmp.NoneTotal
set_option linter.unusedSimpArgs false
set_option linter.unusedVariables false
namespace Go.Proofs.YtlodgmmhaolmaaaDoor
open Go.RowKit Go.Lib
open Go.Sort (grow)
/-- one ahead of the other -/
def SrtE (mo : Bool) (S : List Ent) : Prop := S.Pairwise (fun a b => ahE mo a b = true)
theorem srt_unique {mo : Bool} : ∀ {S T : List Ent}, SrtE mo S → SrtE mo T → S.Perm T → S = T := by
  intro S
  induction S with
  | nil => intro T _ _ hp; exact hp.nil_eq
  | cons a r ih =>
    intro T hS hT hp
    cases T with
    | nil => exact absurd hp.symm.nil_eq (by simp)
    | cons b q =>
      obtain ⟨hS1, hS2⟩ := List.pairwise_cons.1 hS
      obtain ⟨hT1, hT2⟩ := List.pairwise_cons.1 hT
      have hab : a = b := by
        have ha : a ∈ b :: q := hp.mem_iff.1 (by simp)
        have hb : b ∈ a :: r := hp.mem_iff.2 (by simp)
        rcases List.mem_cons.1 ha with h | h
        · exact h
        · rcases List.mem_cons.1 hb with h' | h'
          · exact h'.symm
          · have h1 := hT1 a h
            have h2 := hS1 b h'
            have := ahE_trans h1 h2
            rw [ahE_irrefl] at this; cases this
      subst hab
      rw [ih hS2 hT2 (List.perm_cons a |>.1 hp)]
theorem HeapAt.rowIn {w : World} {hb mb : Nat} {v : Value} {L : List Ent} {mo : Bool} {mv : Nat} (h : HeapAt w hb mb v L mo mv) : ∃ A cap, v = .slice A L.length cap ∧ EntRow w A L.length L ∧ (A = none → L.length = 0 ∧ cap = 0) := by
  rcases h.row with ⟨g, cap, h0, rfl, ho⟩ | ⟨rfl, A, rfl⟩
  · refine ⟨_, cap, rfl, ⟨rfl, fun _ => ⟨g, 0, rfl, fun i hi => ?_⟩⟩, (by intro e; cases e)⟩
    have := ent_cells ho rfl hi
    rw [Nat.zero_add]; exact this
  · exact ⟨A, 0, rfl, ⟨rfl, fun h => absurd h (by simp)⟩, fun _ => ⟨rfl, rfl⟩⟩
set_option maxHeartbeats 1000000 in
theorem list_any (hb mb : Nat) (v : Value) (L : List Ent) (mo : Bool) (mv : Nat) (w : World) (h : HeapAt w hb mb v L mo mv) (hL : L.length * 24 ≤ 225179981352000) :
    Calls Tryd.prog 28 #[.pointer (some ⟨hb, 0, none⟩)] w fun e w' => ∃ v', e = .returned v' ∧ RowE w' v' L ∧ Below w.heap.size w w' ∧ ∀ g, rowB v' = some g → w.heap.size ≤ g := by
  have c0 := h.cell0
  obtain ⟨A, cap, rfl, hr, hn⟩ := h.rowIn
  have kc := eclone_any A L.length cap L w hr hL hn
  generalize L.length = N at *
  clear h hr hn
  go_enter Tryd.func28, Tryd.ntmps28
  go_wp2_with fail
  refine kc.mono ?_
  rintro e w1 ⟨v', rfl, h1, h2, h3⟩
  have HB : Bx _ := ⟨And.intro h1 (And.intro h2 h3)⟩
  clear kc h1 h2 h3
  go_wp2
  go_ret
  exact ⟨v', rfl, HB.out⟩
theorem swoE (mo : Bool) : Go.Sort.SWO (ltOf (cfE mo)) where
  irrefl x := by unfold ltOf; rw [cf_neg (ahE_irrefl mo x)]; decide
  trans x y z h g := by
    unfold ltOf at *
    cases hxy : ahE mo x y with
    | false => rw [cf_neg hxy] at h; simp at h
    | true => cases hyz : ahE mo y z with
      | false => rw [cf_neg hyz] at g; simp at g
      | true => rw [cf_pos (ahE_trans hxy hyz)]; decide
  ntrans x y z h g := by
    unfold ltOf at *
    cases hxy : ahE mo x y with
    | true => rw [cf_pos hxy] at h; simp at h
    | false => cases hyz : ahE mo y z with
      | true => rw [cf_pos hyz] at g; simp at g
      | false => rw [cf_neg (ahE_ntrans hxy hyz)]; decide
theorem lt_ahE (mo : Bool) (x y : Ent) : ltOf (cfE mo) x y = ahE mo x y := by
  unfold ltOf
  cases h : ahE mo x y with
  | true => rw [cf_pos h]; decide
  | false => rw [cf_neg h]; decide
/-- the sort's worlds -/
theorem turned_sort (w : World) (g off m : Nat) (d : Array Ent) (os : Array Obj) : Turned [g] w (Go.Proofs.sortWorldK encE 2 w g off m d os) := by
  refine ⟨rfl, rfl, rfl, ?_, fun k hk hn => ?_⟩
  · show w.heap.size ≤ ((Go.Sort.putRowK encE 2 (Go.Sort.ahead w m) g off d).heap ++ os).size
    rw [Array.size_append]
    have : (Go.Sort.putRowK encE 2 (Go.Sort.ahead w m) g off d).heap.size = w.heap.size := Go.Sort.size_putRow _ _ _ _ _
    omega
  · show ((Go.Sort.putRowK encE 2 (Go.Sort.ahead w m) g off d).heap ++ os)[k]? = w.heap[k]?
    have hs : (Go.Sort.putRowK encE 2 (Go.Sort.ahead w m) g off d).heap.size = w.heap.size := Go.Sort.size_putRow _ _ _ _ _
    rw [Array.getElem?_append_left (by omega)]
    show (w.heap.modify g _)[k]? = _
    have hkg : k ≠ g := fun e => hn (by rw [e]; simp)
    rw [Array.getElem?_modify, if_neg (fun e => hkg e.symm)]
/-- what Sorted hands back -/
structure SrtTo (w w' : World) (mo : Bool) (L S : List Ent) (A : Option Addr) : Prop where
  row : EntRow w' A L.length S
  srt : SrtE mo S
  p : S.Perm L
  b : Below w.heap.size w w'
  new : 0 < L.length → ∃ g, A = some ⟨g, 0, none⟩ ∧ w.heap.size ≤ g
theorem srt_of {mo : Bool} {L : List Ent} {d : Array Ent} (hN : NoTwice L) (hp : Go.Sort.PermIn 0 L.length L.toArray d) (hs : Go.Sort.SortedIn (ltOf (cfE mo)) 0 L.length d) : SrtE mo d.toList ∧ d.toList.Perm L ∧ d.size = L.length := by
  obtain ⟨h1, h2, h3⟩ := hp
  have hsz : d.size = L.length := by simpa using h1
  have hpm : d.toList.Perm L := by
    have e1 : d.extract 0 L.length = d := by rw [← hsz]; simp
    rw [e1] at h3
    simpa using h3
  refine ⟨?_, hpm, hsz⟩
  have hN' : NoTwice d.toList := hN.perm hpm
  refine List.pairwise_iff_getElem.2 (fun i j hi hj hij => ?_)
  have hi' : i < d.size := by simpa using hi
  have hj' : j < d.size := by simpa using hj
  have h := hs i j (Nat.zero_le _) hij (by omega)
  rw [lt_ahE, getElem!_pos d j hj', getElem!_pos d i hi'] at h
  cases hc : ahE mo d.toList[i] d.toList[j] with
  | true => rfl
  | false =>
    exfalso
    have h' : ahE mo d.toList[j] d.toList[i] = false := by simpa using h
    have e := ahE_total hc h'
    exact (List.pairwise_iff_getElem.1 hN') i j hi hj hij (by rw [e])
set_option maxHeartbeats 2000000 in
set_option maxRecDepth 100000 in
/-- Sorted -/
theorem sorted_any (hb mb : Nat) (v : Value) (L : List Ent) (mo : Bool) (mv : Nat) (w : World) (h : HeapAt w hb mb v L mo mv) (hL : L.length * 24 ≤ 225179981352000) :
    Calls Tryd.prog 8 #[.pointer (some ⟨hb, 0, none⟩)] w fun e w' => ∃ A cap S, e = .returned (.slice A L.length cap) ∧ SrtTo w w' mo L S A := by
  have h0 := h.below (below1 w (.cells #[.pointer (some ⟨hb, 0, none⟩)] 28))
  have kl := list_any hb mb v L mo mv _ h0 hL
  have HH : Bx _ := ⟨And.intro h (And.intro hL h0)⟩
  clear h hL h0
  go_enter Tryd.func8, Tryd.ntmps8
  go_wp2_with fail
  refine kl.mono ?_
  rintro e w1 ⟨v', rfl, h1, hb1, hf1⟩
  have hkb := (hb1.block w.heap.size (by simp)).trans (heap_alloc_new w (.cells #[.pointer (some ⟨hb, 0, none⟩)] 28))
  have c0 : w1.cell? ⟨w.heap.size, 0, none⟩ = some (.pointer (some ⟨hb, 0, none⟩)) := cells_at hkb 0 _ rfl
  have hbw : Below w.heap.size w w1 := (below1 w (.cells #[.pointer (some ⟨hb, 0, none⟩)] 28)).trans (hb1.mono (by simp))
  have h2 := (HH.out.2.2.below hb1).cell2
  rcases h1 with ⟨g, cap, hc0, rfl, ho⟩ | ⟨hLn, A, rfl⟩
  · have hg := hf1 g (rowB_pos hc0)
    have hgs : w.heap.size + 1 ≤ g := by simpa using hg
    have hH : Go.Sort.HoldsK encE 2 w1 g 0 L.toArray := fun j hj => by
      have hj' : j < L.length * 2 := by simpa using hj
      rw [Nat.zero_add]
      refine ⟨?_, ho.frozenAt j⟩
      rw [Go.Sort.get_flatK encE 2 L.toArray j (by simpa using hj')]
      have hi : j / 2 < L.length := by omega
      have e1 := ent_cells ho rfl hi
      have e2 : L.toArray[j / 2]! = atE L (j / 2) := by
        rw [getElem!_pos L.toArray (j / 2) (by simpa using hi)]
        unfold atE; rw [List.getD_eq_getElem?_getD, List.getElem?_eq_getElem hi]; simp
      rw [e2]
      rcases Nat.mod_two_eq_zero_or_one j with hm | hm
      · rw [hm, show j = j / 2 * 2 by omega]; simp only [id]; rw [show j / 2 * 2 / 2 = j / 2 by omega]; exact e1.1
      · rw [hm]; have e3 := e1.2; rw [show j / 2 * 2 + 1 = j by omega] at e3; exact e3
    have eg : ∀ args w, (callFunc 30 args).run Tryd.prog w = .ok (.enter 30 args) w := enters_of Tryd.func30 (by kernel_rfl) rfl
    have hcmp : CmpLays Tryd.prog 30 #[.pointer (some ⟨w.heap.size, 0, none⟩)] encE 2 (cfE mo) g 0 L.toArray.size w1 := fun m os dk _ x y => by
      have hne : w.heap.size ≠ g := by omega
      have hhb : hb ≠ g := by have := block_lt HH.out.1.blk; omega
      have ht := turned_sort w1 g 0 m dk os
      exact scmp_any mo x y w.heap.size hb _ (ht.cell c0 (by simpa using hne)) (ht.cell h2 (by simpa using hhb))
    have hcon := AnyQ.slices_SortFunc Tryd.sortEnt 2 Tryd.isAgg27 Tryd.sizeOf27 encE (fun _ => rfl) (fun x v hv => by simp [encE] at hv; rcases hv with rfl | rfl <;> rfl) (cfE mo) (swoE mo) 30 #[.pointer (some ⟨w.heap.size, 0, none⟩)] g 0 cap L.toArray w1 eg hcmp hH (own_cap ho).2.2 (by have := HH.out.2.1; simp; omega)
    rw [show L.toArray.size = L.length by simp] at hcon
    change Calls Tryd.prog 29 _ _ _ at hcon
    have HC : Bx _ := ⟨And.intro hbw (And.intro hgs hH)⟩
    have HR1 : Bx _ := ⟨ho⟩
    clear kl hb1 hkb c0 h2 hf1 ho hg hH eg hcmp hbw
    go_wp2_with fail
    refine hcon.mono ?_
    rintro e w2 ⟨rfl, d, m, os, hp, hs, rfl⟩
    have hSr := srt_of HH.out.1.two hp hs
    have ht := turned_sort w1 g 0 m d os
    have hHd : Go.Sort.HoldsK encE 2 (Go.Proofs.sortWorldK encE 2 w1 g 0 m d os) g 0 d := by
      refine Go.Sort.holdsK_grow encE 2 _ os g 0 d ?_ (Go.Sort.holdsK_putRowK encE 2 _ g 0 L.toArray d (Go.Sort.holdsK_ahead encE 2 w1 m g 0 L.toArray HC.out.2.2) (by rw [hSr.2.2]; simp))
      have hgl : g < w1.heap.size := by
        have := own_cap (HR1.out)
        exact this.2.2
      show g < (Go.Sort.putRowK encE 2 (Go.Sort.ahead w1 m) g 0 d).heap.size
      have : (Go.Sort.putRowK encE 2 (Go.Sort.ahead w1 m) g 0 d).heap.size = w1.heap.size := Go.Sort.size_putRow _ _ _ _ _
      omega
    have HF : Bx (SrtTo w (Go.Proofs.sortWorldK encE 2 w1 g 0 m d os) mo L d.toList (some ⟨g, 0, none⟩)) := ⟨⟨⟨by simpa using hSr.2.2, fun _ => ⟨g, 0, rfl, fun i hi => ?_⟩⟩, hSr.1, hSr.2.1, HC.out.1.trans (ht.below (fun x hx => by simp at hx; omega) HC.out.1.size), fun _ => ⟨g, rfl, by have := HC.out.2.1; omega⟩⟩⟩
    · clear hcon hp hs hSr ht hHd
      generalize Go.Proofs.sortWorldK encE 2 w1 g 0 m d os = w2 at *
      go_wp2
      go_ret
      exact ⟨_, cap, d.toList, rfl, HF.out⟩
    · have hid : i < d.size := by rw [hSr.2.2]; exact hi
      have a0 := (hHd (i * 2) (by simp; omega)).1
      have a1 := (hHd (i * 2 + 1) (by simp; omega)).1
      rw [Go.Sort.get_flatK encE 2 d _ (by omega)] at a0 a1
      have e2 : d[i]! = atE d.toList i := by
        rw [getElem!_pos d i hid]
        unfold atE; rw [List.getD_eq_getElem?_getD, List.getElem?_eq_getElem (by simpa using hid)]; simp
      rw [show i * 2 / 2 = i by omega, show i * 2 % 2 = 0 by omega, e2] at a0
      rw [show (i * 2 + 1) / 2 = i by omega, show (i * 2 + 1) % 2 = 1 by omega, e2] at a1
      exact ⟨a0, by rw [Nat.add_assoc]; exact a1⟩
  · have hcon := AnyF.slices_SortFunc_none Tryd.sortEnt A 0 (.func (.func 30) #[] #[.pointer (some ⟨w.heap.size, 0, none⟩)]) w1
    change Calls Tryd.prog 29 _ _ _ at hcon
    subst hLn
    have HC : Bx _ := ⟨hbw⟩
    clear kl hb1 hkb c0 h2 hf1 hbw
    go_wp2_with fail
    refine hcon.mono ?_
    rintro e w2 ⟨rfl, rfl⟩
    go_wp2
    go_ret
    exact ⟨A, 0, [], rfl, ⟨⟨rfl, fun h => absurd h (by simp)⟩, List.Pairwise.nil, List.Perm.refl _, HC.out, fun h => absurd h (by simp)⟩⟩
end Go.Proofs.YtlodgmmhaolmaaaDoor
