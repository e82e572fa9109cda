/- The walks of missing and Ready. -/
import Derived.Test.YtaibdcglhibglaaMemJ
import Derived.RangeFuncCalls
import Derived.TacticsIn
import Derived.Sort.QuietIn
import Derived.Shelf.RegionOpen
namespace Go.Proofs.Ytaibdcglhibglaa
open Go.RowKit Go.Shelf
set_option linter.unusedVariables false
attribute [local go_sem] Oper.semAt_some

theorem missing_c (p : Nat) (w : World) {L : List Pc} (H : SL w L) :
    Calls Try.prog 48 #[.pointer (some ⟨p, 0, none⟩)] w fun e w' => ∃ B, e = .returned (.func (.func 55) #[] #[.pointer (some ⟨B, 0, none⟩)]) ∧
      SL w' (.blk B [.pointer (some ⟨p, 0, none⟩)] 35 :: L) := by
  have hmf : ∀ (fn : Fn) (first cap : Array Value) (w : World), (Instr.makeFunc fn first cap).run Try.prog w = .ok (.func fn first cap) w := fun _ _ _ _ => rfl
  go_enter Try.func48, Try.ntmps48
  go_wp2_with fail
  go_ret
  exact ⟨_, rfl, H.alloc _ _⟩

/-- The members that a set does not hold. -/
def missL (ms : List Int) (ps : Int → Bool) : List Int := ms.filter fun x => !ps x
def missX (ms : List Int) (ps : Int → Bool) : List (Array Value) := (missL ms ps).map fun x => #[.int .i64 x]
theorem missX_at {ms : List Int} {ps : Int → Bool} {k : Nat} (hk : k < ms.length) (h : ps (ms[k]'hk) = false) :
    ∃ h2 : (missL (ms.take k) ps).length < (missX ms ps).length, (missX ms ps)[(missL (ms.take k) ps).length]'h2 = #[.int .i64 (ms[k]'hk)] := by
  have e : ms = ms.take k ++ ms[k]'hk :: ms.drop (k + 1) := by rw [← List.drop_eq_getElem_cons hk, List.take_append_drop]
  have e2 : missL ms ps = missL (ms.take k) ps ++ ms[k]'hk :: missL (ms.drop (k + 1)) ps := by
    conv => lhs; rw [e]
    unfold missL
    rw [List.filter_append, List.filter_cons_of_pos (by simp [h])]
  have e3 : missX ms ps = (missL (ms.take k) ps).map (fun x => #[Value.int .i64 x]) ++ #[.int .i64 (ms[k]'hk)] :: (missL (ms.drop (k + 1)) ps).map (fun x => #[Value.int .i64 x]) := by
    unfold missX; rw [e2]; simp
  refine ⟨by rw [e3]; simp, ?_⟩
  rw [List.getElem_of_eq e3, List.getElem_append_right (by simp)]
  simp
theorem missL_succ {ms : List Int} {ps : Int → Bool} {k : Nat} (hk : k < ms.length) :
    missL (ms.take (k + 1)) ps = if ps (ms[k]'hk) then missL (ms.take k) ps else missL (ms.take k) ps ++ [ms[k]'hk] := by
  rw [List.take_succ_eq_append_getElem hk]
  unfold missL
  rw [List.filter_append]
  cases h : ps (ms[k]'hk) <;> simp [h]

theorem hzI : ∀ w, (zeroValue 3).run Try.prog w = .ok (.int .i64 0) w := fun w => by simp [go_sem]

section
variable {self nodes disp N By gN gBy count : Int} {owes : Bool}
def missP (B p c m len : Nat) (a : Option Addr) (self nodes disp N By gN gBy count : Int) (owes : Bool) (ms : List Int) (ps : Int → Bool) : List Pc :=
  [.blk B [.pointer (some ⟨p, 0, none⟩)] 35, memB p self nodes disp N By (.slice a len c) gN gBy owes (.map (some m)) count, .own 3 1 (.slice a len c) len (iv ms), iset m ps]

set_option maxHeartbeats 1000000 in
theorem missing_gives (B p c m len : Nat) (a : Option Addr) (ms : List Int) (ps : Int → Bool) (hl : len ≤ 1000000) :
    GivesS Try.prog 55 #[.pointer (some ⟨B, 0, none⟩)] (missX ms ps) (fun _ => missP B p c m len a self nodes disp N By gN gBy count owes ms ps) (fun _ => missP B p c m len a self nodes disp N By gN gBy count owes ms ps) := by
  intro l J Z W L0 hY h0 H
  have hY' := Lib.hid hY
  have h0' := Lib.hid h0
  clear hY h0
  refine callsIn_of_wp Try.func55 rfl trivial ?_ rfl
  simp only [Try.ntmps55, List.size_toArray, List.length_cons, List.length_nil, Nat.reduceAdd, Nat.reduceSub, Array.replicate_succ, Array.replicate_zero, List.push_toArray, List.append_toArray, List.nil_append, List.cons_append]
  have hH := Lib.hid H
  simp only [missP, memB, List.cons_append, List.nil_append] at H
  (have C := H.cells; dsimp only [cellsOf, Pc.cells, cellsFrom, iset, Nat.zero_add, Nat.reduceAdd] at C; (try simp only [true_and] at C); (try simp only [and_true] at C))
  have hlen' : Hid (len = ms.length) := Lib.hid (OwnK.rdI (H.ownOf (by first | exact .here _ _ | exact .there (.here _ _) | exact .there (.there (.here _ _)) | exact .there (.there (.there (.here _ _))) | exact .there (.there (.there (.there (.here _ _)))) | exact .there (.there (.there (.there (.there (.here _ _))))) | exact .there (.there (.there (.there (.there (.there (.here _ _)))))) | exact .there (.there (.there (.there (.there (.there (.there (.here _ _))))))) | exact .there (.there (.there (.there (.there (.there (.there (.there (.here _ _)))))))) | exact .there (.there (.there (.there (.there (.there (.there (.there (.there (.here _ _))))))))) | exact .there (.there (.there (.there (.there (.there (.there (.there (.there (.there (.here _ _)))))))))) | exact .there (.there (.there (.there (.there (.there (.there (.there (.there (.there (.there (.here _ _))))))))))) | exact .there (.there (.there (.there (.there (.there (.there (.there (.there (.there (.there (.there (.here _ _)))))))))))) | exact .there (.there (.there (.there (.there (.there (.there (.there (.there (.there (.there (.there (.there (.here _ _)))))))))))))))).2.1
  clear H
  gi_wp2_with (first | refine wpIn_label ?_ | refine scope_in ?_)
  gi_loopw [11] (fun i V => ∃ (k : Nat) (L : List Pc), k ≤ len ∧ i = .int .i64 k ∧ J (missL (ms.take k) ps).length L ∧ SL V (missP B p c m len a self nodes disp N By gN gBy count owes ms ps ++ L)) (fun i _ => len - (intOf i).toNat)
  case atStart => exact ⟨0, L0, by omega, rfl, by simpa [missL] using h0'.out, hH.out⟩
  case round =>
    clear hH C
    obtain ⟨k, L, hk, rfl, hJ, H⟩ := hrel
    have hH := Lib.hid H
    simp only [missP, memB, List.cons_append, List.nil_append] at H
    (have C := H.cells; dsimp only [cellsOf, Pc.cells, cellsFrom, iset, Nat.zero_add, Nat.reduceAdd] at C; (try simp only [true_and] at C); (try simp only [and_true] at C))
    by_cases hkn : k < len
    · have hkm : k < ms.length := by rw [← hlen'.out]; exact hkn
      obtain ⟨b, o, rfl, hc⟩ := (OwnK.rdI (H.ownOf (by first | exact .here _ _ | exact .there (.here _ _) | exact .there (.there (.here _ _)) | exact .there (.there (.there (.here _ _))) | exact .there (.there (.there (.there (.here _ _)))) | exact .there (.there (.there (.there (.there (.here _ _))))) | exact .there (.there (.there (.there (.there (.there (.here _ _)))))) | exact .there (.there (.there (.there (.there (.there (.there (.here _ _))))))) | exact .there (.there (.there (.there (.there (.there (.there (.there (.here _ _)))))))) | exact .there (.there (.there (.there (.there (.there (.there (.there (.there (.here _ _))))))))) | exact .there (.there (.there (.there (.there (.there (.there (.there (.there (.there (.here _ _)))))))))) | exact .there (.there (.there (.there (.there (.there (.there (.there (.there (.there (.there (.here _ _))))))))))) | exact .there (.there (.there (.there (.there (.there (.there (.there (.there (.there (.there (.there (.here _ _)))))))))))) | exact .there (.there (.there (.there (.there (.there (.there (.there (.there (.there (.there (.there (.there (.here _ _)))))))))))))))).2.2.cell hkm
      have hlk := fun x => iset_lookup (H.iset (by first | exact .here _ _ | exact .there (.here _ _) | exact .there (.there (.here _ _)) | exact .there (.there (.there (.here _ _))) | exact .there (.there (.there (.there (.here _ _)))) | exact .there (.there (.there (.there (.there (.here _ _))))) | exact .there (.there (.there (.there (.there (.there (.here _ _)))))) | exact .there (.there (.there (.there (.there (.there (.there (.here _ _))))))) | exact .there (.there (.there (.there (.there (.there (.there (.there (.here _ _)))))))) | exact .there (.there (.there (.there (.there (.there (.there (.there (.there (.here _ _))))))))) | exact .there (.there (.there (.there (.there (.there (.there (.there (.there (.there (.here _ _)))))))))) | exact .there (.there (.there (.there (.there (.there (.there (.there (.there (.there (.there (.here _ _))))))))))) | exact .there (.there (.there (.there (.there (.there (.there (.there (.there (.there (.there (.there (.here _ _)))))))))))) | exact .there (.there (.there (.there (.there (.there (.there (.there (.there (.there (.there (.there (.there (.here _ _))))))))))))))) Try.underlying72 Try.underlying3 hzI x
      have hs := Lib.hid (missL_succ (ps := ps) hkm)
      cases hp : ps (ms[k]'hkm)
      · obtain ⟨h2, h3⟩ := missX_at hkm hp
        obtain ⟨fn, tmps, assign, body, hy, hR⟩ := hY'.out _ h2 wr L hJ hH.out
        rw [h3] at hy
        have hR' := Lib.hid hR
        have hJ' := Lib.hid hJ
        rw [hp] at hs
        have hlk0 := hlk (ms[k]'hkm)
        rw [hp] at hlk0
        generalize ms[k]'hkm = y at *
        clear hlk hR hJ h2 h3 hp H
        gi_wp2_with fail
        refine ⟨rfl, hR'.out.mono ?_⟩
        rintro e w3 (⟨rfl, L', hJ3, H3⟩ | ⟨rfl, L', hZ3, H3⟩)
        · have H3' := Lib.hid H3
          have hJ3' := Lib.hid hJ3
          clear C hc hlk0 H3 hJ3
          gi_wp2_with fail
          go_roundw
          case rel =>
            refine ⟨k + 1, L', by omega, by go_num, ?_, H3'.out⟩
            rw [hs.out]; simpa using hJ3'.out
          case measure => (simp [intOf]; try omega)
        · gi_wp2_with fail
          repeat (first | rw [Exit.noGoto_ret] | gi_step)
          refine bodyPost_ret (results_none rfl _ _ _) rfl ?_
          exact ⟨⟨_, rfl⟩, .inr ⟨_, _, hZ3, H3⟩⟩
      · have hJ' := Lib.hid hJ
        rw [hp] at hs
        have hlk0 := hlk (ms[k]'hkm)
        rw [hp] at hlk0
        generalize ms[k]'hkm = y at *
        clear hlk hJ hp H
        gi_wp2_with fail
        go_roundw
        case rel =>
          refine ⟨k + 1, L, by omega, by go_num, ?_, hH.out⟩
          rw [hs.out]; exact hJ'.out
        case measure => (simp [intOf]; try omega)
    · obtain rfl : k = len := by omega
      have hJ' := Lib.hid hJ
      clear hJ H
      gi_wp2_with fail
      repeat (first | rw [Exit.noGoto_normal] | gi_step)
      refine bodyPost_end (results_none rfl _ _ _) rfl ⟨⟨_, rfl⟩, .inl ⟨L, ?_, hH.out⟩⟩
      have e : ms.take k = ms := List.take_of_length_le (by rw [← hlen'.out]; exact Nat.le_refl _)
      have := hJ'.out
      rw [e] at this
      simpa [missX] using this
end
end Go.Proofs.Ytaibdcglhibglaa
