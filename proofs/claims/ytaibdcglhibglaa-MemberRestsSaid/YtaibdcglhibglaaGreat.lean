/- Calls that came in; the walk of Great. -/
import Derived.Test.YtaibdcglhibglaaOk
namespace Go.Proofs.Ytaibdcglhibglaa
open Go.RowKit
set_option linter.unusedVariables false

/-- A slice that came in of calls: each with its members' slice. -/
structure OpIn where
  o : OpM
  g : Option Addr
  c : Nat

def OpAt (w : World) (b off : Nat) (x : OpIn) : Prop :=
  (w.cell? ⟨b, off, none⟩ = some (.int .i64 x.o.kind) ∧ w.cell? ⟨b, off + 1, none⟩ = some (.int .u32 x.o.N) ∧ w.cell? ⟨b, off + 2, none⟩ = some (.int .i64 x.o.By) ∧ w.cell? ⟨b, off + 3, none⟩ = some (.slice x.g x.o.ms.length x.c) ∧
    w.cell? ⟨b, off + 4, none⟩ = some (.int .i64 x.o.n) ∧ w.cell? ⟨b, off + 5, none⟩ = some (.int .i64 x.o.count)) ∧
  RdI w x.g x.o.ms ∧ (x.g = none → x.c = 0) ∧ (0 ≤ x.o.N ∧ x.o.N ≤ 4294967295) ∧ x.o.ms.length ≤ 9223372036854775807
def RdOps (w : World) (a : Option Addr) (n : Nat) (f : Nat → OpIn) : Prop := ∀ i, i < n → ∃ b o, a = some ⟨b, o, none⟩ ∧ OpAt w b (o + i * 6) (f i)

theorem OpAt.no {w w' : World} {b o : Nat} {x : OpIn} (h : OpAt w b o x) (k : Kp no w w') : OpAt w' b o x :=
  ⟨⟨k.cell h.1.1 (fun h => h), k.cell h.1.2.1 (fun h => h), k.cell h.1.2.2.1 (fun h => h), k.cell h.1.2.2.2.1 (fun h => h), k.cell h.1.2.2.2.2.1 (fun h => h), k.cell h.1.2.2.2.2.2 (fun h => h)⟩, h.2.1.no k, h.2.2⟩
theorem RdOps.no {w w' : World} {a : Option Addr} {n : Nat} {f : Nat → OpIn} (h : RdOps w a n f) (k : Kp no w w') : RdOps w' a n f := fun i hi => by
  obtain ⟨b, o, h1, h2⟩ := h i hi
  exact ⟨b, o, h1, h2.no k⟩

/-- Are calls more than statements go through? -/
def greatM (n : Nat) (f : Nat → OpIn) : Prop := 200 < n ∨ ∃ i, i < n ∧ 80 < (f i).o.ms.length

def GreatP (n : Nat) (f : Nat → OpIn) (w : World) (r : Ending) (w' : World) : Prop := ∃ z : Int, r = .returned (.int .i64 z) ∧ w = w' ∧ ((z = 1 ∧ greatM n f) ∨ (z = 0 ∧ ¬ greatM n f))

theorem great_c (a : Option Addr) (n cap : Nat) (f : Nat → OpIn) (w : World) (hn : n ≤ 9223372036854775807) (h : RdOps w a n f) :
    Calls Try.prog 19 #[.slice a n cap] w (GreatP n f w) := by
  have h' := Lib.hid h
  clear h
  by_cases h200 : 200 < n
  · have hd : decide ((200 : Int) < (n : Int)) = true := by simp; omega
    have hfin := Lib.hid (show greatM n f from .inl h200)
    clear h200
    go_enter Try.func19, Try.ntmps19
    go_wp2_with fail
    go_ret
    exact ⟨1, rfl, rfl, .inl ⟨rfl, hfin.out⟩⟩
  · have hd : decide ((200 : Int) < (n : Int)) = false := by simp; omega
    have h2 : n ≤ 200 := by omega
    clear h200
    go_enter Try.func19, Try.ntmps19
    go_wp2_with fail
    go_loop [9] (fun i => ∃ j : Nat, j ≤ n ∧ i = .int .i64 j ∧ Hid (∀ k, k < j → (f k).o.ms.length ≤ 80)) (fun i => n - (intOf i).toNat)
    case atStart => exact ⟨0, by omega, rfl, Lib.hid (by intro k h; omega)⟩
    case round =>
      obtain ⟨j, hj, rfl, hall⟩ := hrel
      by_cases hjn : j < n
      · obtain ⟨b, o, rfl, hop⟩ := h'.out j hjn
        have c3 := hop.1.2.2.2.1
        have hml := hop.2.2.2.2
        have hg := Lib.hid (fun (h : 80 < (f j).o.ms.length) => (show greatM n f from .inr ⟨j, hjn, h⟩))
        have hnx := Lib.hid (fun (h : (f j).o.ms.length ≤ 80) => (show ∀ k, k < j + 1 → (f k).o.ms.length ≤ 80 from fun k hk => by
          by_cases e : k = j
          · subst e; exact h
          · exact hall.out k (by omega)))
        generalize (f j).o.ms.length = m at *
        clear hop hall
        by_cases hm : 80 < m
        · have hfin := Lib.hid (hg.out hm)
          have hd2 : decide ((80 : Int) < (m : Int)) = true := by simp; omega
          clear hg hnx hm
          go_wp2_with fail
          go_ret
          exact ⟨1, rfl, rfl, .inl ⟨rfl, hfin.out⟩⟩
        · have hfin := Lib.hid (hnx.out (by omega))
          have hd2 : decide ((80 : Int) < (m : Int)) = false := by simp; omega
          clear hg hnx hm
          go_wp2_with fail
          go_round
          case rel => exact ⟨j + 1, by omega, by go_num, hfin⟩
          case measure => (simp [intOf]; try omega)
      · obtain rfl : j = n := by omega
        have hfin := Lib.hid (show ¬ greatM j f from by
          rintro (h | ⟨i, hi, h⟩)
          · omega
          · have := hall.out i hi; omega)
        clear hall
        go_wp2_with fail
        go_ret
        exact ⟨0, rfl, rfl, .inr ⟨rfl, hfin.out⟩⟩
end Go.Proofs.Ytaibdcglhibglaa
