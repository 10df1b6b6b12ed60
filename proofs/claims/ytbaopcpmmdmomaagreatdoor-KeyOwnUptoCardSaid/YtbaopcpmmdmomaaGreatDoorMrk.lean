/- weirmem.text: the mark of a number. -/
import Derived.Test.YtbaopcpmmdmomaaGreatDoorBas
import Derived.Laws.Concat
set_option linter.unusedSimpArgs false
set_option linter.unusedVariables false
namespace Go.Proofs.YtbaopcpmmdmomaaGreatDoor
open Go.RowKit
def markT (i : Nat) : List UInt8 := [109, 97, 114, 107, 32, UInt8.ofNat (97 + i % 26), UInt8.ofNat (97 + i / 26 % 26), UInt8.ofNat (97 + i / 676 % 26)]
theorem byte_val {a : Nat} (h : a < 26) : ((UInt8.ofNat (97 + a)).toNat : Int) = 97 + (a : Int) := by
  rw [UInt8.toNat_ofNat']; omega
theorem three_bytes (w : World) (a b c : Nat) (ha : a < 26) (hb : b < 26) (hc : c < 26) :
    (convert 99 9 (.slice (some ⟨w.heap.size, 0, none⟩) 3 3)).run Tryz.prog (w.alloc (.cells #[.int .u8 (97 + (a : Int)), .int .u8 (97 + (b : Int)), .int .u8 (97 + (c : Int))] 5)) = .ok (.string ⟨[UInt8.ofNat (97 + a), UInt8.ofNat (97 + b), UInt8.ofNat (97 + c)].toArray⟩) (w.alloc (.cells #[.int .u8 (97 + (a : Int)), .int .u8 (97 + (b : Int)), .int .u8 (97 + (c : Int))] 5)) := by
  refine run_convert_bytes_back (P := Tryz.prog) _ 99 9 5 ⟨w.heap.size, 0, none⟩ 3 [UInt8.ofNat (97 + a), UInt8.ofNat (97 + b), UInt8.ofNat (97 + c)] Tryz.underlying99 Tryz.underlying5 Tryz.underlying9 ?_
  intro j hj
  match j, hj with
  | 0, _ => show (w.alloc _).cell? ⟨w.heap.size, 0, none⟩ = _; rw [World.cell?_alloc_at _ _ _ _ rfl]; simp only [List.getElem_cons_zero, byte_val ha]; rfl
  | 1, _ => show (w.alloc _).cell? ⟨w.heap.size, 1, none⟩ = _; rw [World.cell?_alloc_at _ _ _ _ rfl]; simp only [List.getElem_cons_succ, List.getElem_cons_zero, byte_val hb]; rfl
  | 2, _ => show (w.alloc _).cell? ⟨w.heap.size, 2, none⟩ = _; rw [World.cell?_alloc_at _ _ _ _ rfl]; simp only [List.getElem_cons_succ, List.getElem_cons_zero, byte_val hc]; rfl
set_option maxHeartbeats 2000000 in
set_option maxRecDepth 100000 in
theorem mark_any (i : Nat) (w : World) (hi : i ≤ 1152921504606846976) : Calls Tryz.prog 69 #[.int .i64 i] w fun e w' => e = .returned (strV (markT i)) ∧ Below w.heap.size w w' := by
  unfold markT
  obtain ⟨a, ha⟩ : ∃ a, i % 26 = a := ⟨_, rfl⟩
  obtain ⟨q, hq⟩ : ∃ q, i / 26 = q := ⟨_, rfl⟩
  obtain ⟨b, hb⟩ : ∃ b, q % 26 = b := ⟨_, rfl⟩
  obtain ⟨p, hp⟩ : ∃ p, i / 676 = p := ⟨_, rfl⟩
  obtain ⟨c, hc⟩ : ∃ c, p % 26 = c := ⟨_, rfl⟩
  rw [ha, hq, hb, hp, hc]
  have a26 : a < 26 := by omega
  have b26 : b < 26 := by omega
  have c26 : c < 26 := by omega
  have d1 : ((i : Int).tmod 26) = (a : Int) := by rw [Int.tmod_eq_emod_of_nonneg (by omega)]; omega
  have d2 : ((i : Int).tdiv 26) = (q : Int) := by rw [Int.tdiv_eq_ediv_of_nonneg (by omega)]; omega
  have d3 : ((q : Int).tmod 26) = (b : Int) := by rw [Int.tmod_eq_emod_of_nonneg (by omega)]; omega
  have d4 : ((i : Int).tdiv 676) = (p : Int) := by rw [Int.tdiv_eq_ediv_of_nonneg (by omega)]; omega
  have d5 : ((p : Int).tmod 26) = (c : Int) := by rw [Int.tmod_eq_emod_of_nonneg (by omega)]; omega
  have q1 : IntKind.i64.wrap (q : Int) = q := IntWalk.i64_in _ (by omega)
  have p1 : IntKind.i64.wrap (p : Int) = p := IntWalk.i64_in _ (by omega)
  have e1 : IntKind.i64.wrap (97 + (a : Int)) = 97 + a := IntWalk.i64_in _ (by omega)
  have e2 : IntKind.i64.wrap (97 + (b : Int)) = 97 + b := IntWalk.i64_in _ (by omega)
  have e3 : IntKind.i64.wrap (97 + (c : Int)) = 97 + c := IntWalk.i64_in _ (by omega)
  clear ha hq hb hp hc
  have kv := three_bytes w a b c a26 b26 c26
  obtain ⟨x, hx⟩ : ∃ x, UInt8.ofNat (97 + a) = x := ⟨_, rfl⟩
  obtain ⟨y, hy⟩ : ∃ y, UInt8.ofNat (97 + b) = y := ⟨_, rfl⟩
  obtain ⟨z, hz⟩ : ∃ z, UInt8.ofNat (97 + c) = z := ⟨_, rfl⟩
  rw [hx, hy, hz] at kv ⊢
  clear hx hy hz
  have k2 := fun w => run_string_add_lists (P := Tryz.prog) w [109, 97, 114, 107, 32] [x, y, z] (by simp) (by simp)
  go_enter Tryz.func69, Tryz.ntmps69
  go_wp2
  go_ret
  refine ⟨?_, below1 _ _⟩
  show Ending.returned (.string ((⟨[109, 97, 114, 107, 32].toArray⟩ : ByteArray) ++ ⟨[x, y, z].toArray⟩)) = _
  have e : ((⟨[109, 97, 114, 107, 32].toArray⟩ : ByteArray) ++ ⟨[x, y, z].toArray⟩) = ⟨[109, 97, 114, 107, 32, x, y, z].toArray⟩ := by apply ByteArray.ext; simp
  rw [e]
end Go.Proofs.YtbaopcpmmdmomaaGreatDoor
