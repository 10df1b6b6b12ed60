/- Verify, plain: a program's data, what is right of it, what is told of it. -/
import Derived.Test.YtbcajmkmadgbhaaGreatDoorVrH
import Derived.Test.YtbcajmkmadgbhaaGreatDoorKeyA
set_option linter.unusedVariables false
namespace Go.Proofs.YtbcajmkmadgbhaaGreatDoor
/-- a program's code, as data -/
structure PrgD where
  from_ : List UInt8
  into : List UInt8
  every : Int
  offset : Int
  groups : List (List UInt8)
  accs : List (Nat × List UInt8)
  aliases : List (List UInt8)
  names : List (List UInt8)
  texts : List (List UInt8)
  lists : List (List (List UInt8))
  times : List Int
  ints : List Int
  filter : List InsD
  output : List InsD
def blankB (l : List UInt8) : Bool := l.isEmpty || rightB l 256
def accB (a : Nat × List UInt8) : Bool := decide (1 ≤ a.1) && decide (a.1 ≤ 7) && a.1 != 3 && wordB a.2
def listB (l : List (List UInt8)) : Bool := decide (1 ≤ l.length) && decide (l.length ≤ 64) && l.all blankB
structure HeadP (p : PrgD) : Prop where
  from_ : rightB p.from_ 64 = true
  into : p.into = [] ∨ rightB p.into 64 = true
  e1 : 1 ≤ p.every
  e2 : p.every ≤ 288230376151711744
  o1 : 0 ≤ p.offset
  o2 : p.offset < p.every
  groups : p.groups.length ≤ 8
  gwords : p.groups.all wordB = true
  names : p.names.all wordB = true
  texts : p.texts.all blankB = true
  accs : p.accs.all accB = true
  aliases : p.aliases.all wordB = true
  twice : p.aliases.Nodup
  lists : p.lists.all listB = true
  a1 : 1 ≤ p.aliases.length
  a2 : p.aliases.length ≤ 16
  fi : p.filter.length ≤ 65536
  ou : p.output.length ≤ 65536
/-- is an instruction one of the machine? -/
def okC (fi : Bool) (c : Nat) : Bool := if fi then decide (1 ≤ c) && decide (c ≤ 13) else decide (14 ≤ c) && decide (c ≤ 24)
def lastC (fi : Bool) : Nat := if fi then 13 else 24
def inB (n : Int) (all : Nat) : Bool := decide (0 ≤ n) && decide (n < all)
def accAt (p : PrgD) (n : Int) : Nat × List UInt8 := p.accs.getD n.toNat (0, [])
def opsB (p : PrgD) (i : InsD) : Bool :=
  if i.c = 3 then inB i.a p.names.length && inB i.b p.texts.length
  else if i.c = 4 then inB i.a p.names.length && inB i.b p.lists.length
  else if i.c = 5 then inB i.a p.names.length && inB i.b p.names.length
  else if i.c = 6 then inB i.a 6 && inB i.b p.times.length
  else if i.c = 10 ∨ i.c = 11 then i.b == 0
  else if i.c = 14 then inB i.a p.accs.length && i.b == 0
  else if i.c = 15 then inB i.a p.ints.length && i.b == 0
  else if i.c = 16 then inB i.a p.accs.length && inB i.b p.accs.length && (accAt p i.a).1 == 2 && (accAt p i.b).1 == 1 && (accAt p i.a).2 == (accAt p i.b).2
  else if i.c = 23 then inB i.a p.aliases.length && i.b == 0
  else i.a == 0 && i.b == 0
/-- what is wrong with an instruction by itself; 0: nothing -/
def errC (fi : Bool) (p : PrgD) (m n : Nat) (i : InsD) : Int :=
  if okC fi i.c = false then 180 else if opsB p i = false then 192
  else if jumpC i.c = true ∧ (i.a ≤ n ∨ (m : Int) ≤ i.a) then 191
  else if i.c = lastC fi ∧ n + 1 < m then 193 else 0
def formL (fi : Bool) (p : PrgD) (m : Nat) : List InsD → Nat → Option (Nat × Int)
  | [], _ => none
  | i :: r, n => if errC fi p m n i = 0 then formL fi p m r (n + 1) else some (n, errC fi p m n i)
def formF (fi : Bool) (p : PrgD) (L : List InsD) : Option (Nat × Int) :=
  match formL fi p L.length L 0 with
  | some x => some x
  | none => if L.getLast?.map (·.c) = some (lastC fi) then none else some (L.length, 193)
def countE (n : Nat) (L : List InsD) : Nat := (L.filter fun i => i.c == 23 && i.a == (n : Int)).length
def EmitP (p : PrgD) : Prop := ∀ n, n < p.aliases.length → countE n p.output = 1
open Classical in
/-- what is wrong with a program -/
noncomputable def verF (p : PrgD) : Option (Int × Option Nat) :=
  if HeadP p then
    match formF true p p.filter with
    | some (n, c) => some (c, some n)
    | none => match formF false p p.output with
      | some (n, c) => some (c, some (p.filter.length + n))
      | none => match heiF p.filter 0 hs0 with
        | .inl n => some (190, some n)
        | .inr _ => match heiF p.output 0 hs0 with
          | .inl n => some (190, some (p.filter.length + n))
          | .inr _ => if EmitP p then none else some (193, none)
  else some (192, none)
theorem errC_cases (fi : Bool) (p : PrgD) (m n : Nat) (i : InsD) : errC fi p m n i = 0 ∨ errC fi p m n i = 180 ∨ errC fi p m n i = 192 ∨ errC fi p m n i = 191 ∨ errC fi p m n i = 193 := by
  unfold errC
  repeat' split
  all_goals simp
theorem formL_pos {fi : Bool} {p : PrgD} {m : Nat} : ∀ {L : List InsD} {n k : Nat} {c : Int}, formL fi p m L n = some (k, c) → 1 ≤ c
  | [], _, _, _, h => by cases h
  | i :: r, n, k, c, h => by
    unfold formL at h
    split at h
    · exact formL_pos h
    · injection h with h
      injection h with h1 h2
      have := errC_cases fi p m n i
      omega
theorem formF_pos {fi : Bool} {p : PrgD} {L : List InsD} {k : Nat} {c : Int} (h : formF fi p L = some (k, c)) : 1 ≤ c := by
  unfold formF at h
  split at h
  · injection h with h
    subst h
    exact formL_pos ‹_›
  · split at h
    · cases h
    · injection h with h
      injection h with h1 h2
      omega
theorem verF_pos {p : PrgD} {c : Int} {o : Option Nat} (h : verF p = some (c, o)) : 1 ≤ c := by
  unfold verF at h
  split at h
  · split at h
    · injection h with h; injection h with h1 h2; have := formF_pos ‹_›; omega
    · split at h
      · injection h with h; injection h with h1 h2; have := formF_pos ‹_›; omega
      · split at h
        · injection h with h; injection h with h1 h2; omega
        · split at h
          · injection h with h; injection h with h1 h2; omega
          · split at h
            · cases h
            · injection h with h; injection h with h1 h2; omega
  · injection h with h; injection h with h1 h2; omega
/-- formed: all that heights asks -/
theorem formL_none {fi : Bool} {p : PrgD} {m : Nat} : ∀ {L : List InsD} {n : Nat}, formL fi p m L n = none → ∀ (j : Nat) (i : InsD), L[j]? = some i → errC fi p m (n + j) i = 0
  | [], _, _, j, i, h => by simp at h
  | i0 :: r, n, h, j, i, hj => by
    unfold formL at h
    split at h
    · cases j with
      | zero => simp at hj; subst hj; assumption
      | succ j =>
        have := formL_none h j i (by simpa using hj)
        rwa [Nat.add_assoc, Nat.add_comm 1 j] at this
    · cases h
theorem errC_zero {fi : Bool} {p : PrgD} {m n : Nat} {i : InsD} (h : errC fi p m n i = 0) : okC fi i.c = true ∧ opsB p i = true ∧ (jumpC i.c = true → (n : Int) < i.a ∧ i.a < m) ∧ (i.c = lastC fi → m ≤ n + 1) := by
  unfold errC at h
  repeat' split at h
  all_goals first | omega | skip
  rename_i h1 h2 h3 h4
  refine ⟨by simpa using h1, by simpa using h2, fun hj => ?_, fun hl => ?_⟩
  · have : ¬ (i.a ≤ n ∨ (m : Int) ≤ i.a) := fun x => h3 ⟨hj, x⟩
    omega
  · have : ¬ (n + 1 < m) := fun x => h4 ⟨hl, x⟩
    omega
theorem okC_end {fi : Bool} {c : Nat} (h : okC fi c = true) : endC c = true ↔ c = lastC fi := by
  unfold okC at h
  unfold endC lastC
  cases fi <;> simp at h ⊢ <;> omega
theorem formF_none {fi : Bool} {p : PrgD} {L : List InsD} (h : formF fi p L = none) : Formed L ∧ 0 < L.length ∧ ∀ (j : Nat) (i : InsD), L[j]? = some i → okC fi i.c = true ∧ opsB p i = true := by
  unfold formF at h
  split at h
  · cases h
  · rename_i hn
    split at h
    · rename_i hl
      have hz := fun (j : Nat) (i : InsD) (hj : L[j]? = some i) => errC_zero (by have := formL_none hn j i hj; rwa [Nat.zero_add] at this)
      have hpos : 0 < L.length := by
        cases L with
        | nil => simp at hl
        | cons _ _ => simp
      refine ⟨⟨fun n i hi => ?_, fun n i hi hj => (hz n i hi).2.2.1 hj⟩, hpos, fun j i hi => ⟨(hz j i hi).1, (hz j i hi).2.1⟩⟩
      rw [okC_end (hz n i hi).1]
      have hlt : n < L.length := (List.getElem?_eq_some_iff.1 hi).1
      constructor
      · intro he
        have := (hz n i hi).2.2.2 he
        omega
      · intro he
        have hl2 : L.getLast? = some i := by rw [List.getLast?_eq_getElem?, show L.length - 1 = n by omega]; exact hi
        rw [hl2] at hl
        simpa using hl
    · cases h
end Go.Proofs.YtbcajmkmadgbhaaGreatDoor
