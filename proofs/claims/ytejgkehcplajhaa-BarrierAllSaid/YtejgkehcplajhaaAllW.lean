/- The walk of the law BarrierAll. -/
import Derived.Test.YtejgkehcplajhaaAll
import Derived.Deep.CutBlock
import Derived.Deep.CutRange
namespace Go.Proofs.Ytejgkehcplajhaa
open Go.RowKit
set_option linter.unusedVariables false

section
variable {x : Ac} {f : Nat} {ps : Int → Bool} {V : World}
theorem all_mem (H : SL V (ALL x f ps)) : RdI V x.al (memb x.set) := (OwnK.rdI (H.ownOf (.there (.there (.there (.there (.here _ _))))))).2.2
theorem all_kp (H : SL V (ALL x f ps)) : Kp no x.w V := H.all (.old x.w no) (by simp [ALL, BAR])
theorem all_cell (H : SL V (ALL x f ps)) {m k : Nat} (hm : m < 6) (hk : k < 12) : V.cell? ⟨x.q, m * 12 + k, none⟩ = some (.bool (hasM x.g f (memb x.set) ps m k)) := H.cell (.here _ _) (metC_at hm hk)
theorem all_frame (H : SL V (ALL x f ps)) : Calls Try.prog 12 #[.pointer (some ⟨x.p, 0, none⟩)] V fun e w' => e = .returned (.tuple #[.int .i64 f, .bool (decide ((f : Int) < 12))]) ∧ SL w' (ALL x f ps) := by
  have h := H.re (L' := BAR x.p x.m x.a x.c (memb x.set) x.g f 12 ps [.blk x.q (metC (memb x.set) x.g f ps) 35, .own 3 1 (.slice x.al (memb x.set).length x.cl) (memb x.set).length (iv (memb x.set)), .old x.w no])
    (.step (.there (.here _ _)) (.step (.there (.here _ _)) (.step (.there (.here _ _)) (.same _))))
  refine (bFrame h (memb_ne x.set)).mono ?_
  rintro e w' ⟨h1, h2⟩
  exact ⟨h1, h2.re (.step (.there (.there (.there (.here _ _)))) (.same _))⟩
/-- What lies there behind a call of Passed, ahead of the note. -/
def MID (x : Ac) (f f' : Nat) (ps ps' : Int → Bool) : List Pc :=
  .blk x.q (metC (memb x.set) x.g f ps) 35 :: BAR x.p x.m x.a x.c (memb x.set) x.g f' 12 ps' [.own 3 1 (.slice x.al (memb x.set).length x.cl) (memb x.set).length (iv (memb x.set)), .old x.w no]
theorem all_passed (H : SL V (ALL x f ps)) (hf : f ≤ 12) {y k : Int} {on : Bool} {er : Int} {f' : Nat} {ps' : Int → Bool} (hr : passM x.g f 12 (memb x.set) ps y k = (on, er, (f' : Int), ps')) :
    Calls Try.prog 13 #[.pointer (some ⟨x.p, 0, none⟩), .int .i64 y, .int .i64 k] V fun e w' => e = .returned (.tuple #[.bool on, .int .i64 er]) ∧ SL w' (MID x f f' ps ps') := by
  have h := H.re (L' := BAR x.p x.m x.a x.c (memb x.set) x.g f 12 ps [.blk x.q (metC (memb x.set) x.g f ps) 35, .own 3 1 (.slice x.al (memb x.set).length x.cl) (memb x.set).length (iv (memb x.set)), .old x.w no])
    (.step (.there (.here _ _)) (.step (.there (.here _ _)) (.step (.there (.here _ _)) (.same _))))
  refine (bPassed h (memb_ne x.set) (by have := memb_len x.set; omega) (by omega) (by omega) y k hr).mono ?_
  rintro e w' ⟨h1, h2⟩
  exact ⟨h1, h2.re (.step (.there (.there (.there (.here _ _)))) (.same _))⟩
theorem mid_frame {f' : Nat} {ps' : Int → Bool} (H : SL V (MID x f f' ps ps')) : Calls Try.prog 12 #[.pointer (some ⟨x.p, 0, none⟩)] V fun e w' => e = .returned (.tuple #[.int .i64 f', .bool (decide ((f' : Int) < 12))]) ∧ SL w' (MID x f f' ps ps') := by
  have h := H.re (L' := BAR x.p x.m x.a x.c (memb x.set) x.g f' 12 ps' [.blk x.q (metC (memb x.set) x.g f ps) 35, .own 3 1 (.slice x.al (memb x.set).length x.cl) (memb x.set).length (iv (memb x.set)), .old x.w no])
    (.step (.there (.here _ _)) (.step (.there (.here _ _)) (.step (.there (.here _ _)) (.same _))))
  refine (bFrame h (memb_ne x.set)).mono ?_
  rintro e w' ⟨h1, h2⟩
  exact ⟨h1, h2.re (.step (.there (.there (.there (.here _ _)))) (.same _))⟩
end

/-- What 'all' holds behind so many members. -/
def AllRel (x : Ac) (f : Nat) (ps : Int → Bool) (i : Nat) (b : Bool) : Prop := b = true → f < 12 ∧ ∀ y ∈ (memb x.set).take i, hasM x.g f (memb x.set) ps y f = true

theorem zero_met (w : World) : Sem.run Try.prog (zeroValue 35) w = .ok (.agg (List.replicate 72 (.bool false)).toArray) w := by kernel_rfl

set_option maxRecDepth 100000 in
set_option maxHeartbeats 8000000 in
theorem all_c (set fr : Int) (a : Option Addr) (len cap : Nat) (ops : Nat → Int × Int) (w : World) (s0 : 0 ≤ set) (s1 : set ≤ 255) (f0 : 0 ≤ fr) (f1 : fr ≤ 255) (hlen : len ≤ 9223372036854775807) (ho : RdPass w a len ops) :
    Calls Try.prog 4 #[.int .u8 set, .int .u8 fr, .slice a len cap] w fun e w' => e = .returned (.bool true) ∧ Kp no w w' := by
  have ho' := Lib.hid ho
  have hal := Lib.hid (alive_c w (SL.start w))
  have hmd := Lib.hid (fun (V : World) (L : List Pc) (H : SL V L) => made_c set fr s0 s1 f0 f1 V H)
  clear ho
  go_enter Try.func4, Try.ntmps4
  go_wp2_with fail
  refine hal.out.mono ?_
  rintro e w1 ⟨rfl, H⟩
  have hH := Lib.hid H
  clear hal H
  by_cases h1 : 200 < len
  · have hd : decide ((200 : Int) < (len : Int)) = true := by simp; omega
    go_wp2_with fail
    go_ret
    exact ⟨rfl, hH.out.kp (.here _ _)⟩
  · have hd : decide ((200 : Int) < (len : Int)) = false := by simp; omega
    clear h1
    have hm1 := Lib.hid (hmd.out _ _ hH.out)
    go_wp2_with fail
    refine hm1.out.mono ?_
    rintro e w2 ⟨p, m, a1, c1, al, cl, rfl, H⟩
    have hH := Lib.hid H
    clear hm1 hmd H
    obtain ⟨g, hg⟩ : ∃ g : Nat, fr % 12 = (g : Int) := ⟨(fr % 12).toNat, by omega⟩
    have hg12 : g < 12 := by omega
    rw [hg] at hH
    go_wp2_with fail
    rw [zero_met]
    go_wp2_with fail
    have H3 : SL (w2.alloc (.cells #[.bool false, .bool false, .bool false, .bool false, .bool false, .bool false, .bool false, .bool false, .bool false, .bool false, .bool false, .bool false, .bool false, .bool false, .bool false, .bool false, .bool false, .bool false, .bool false, .bool false, .bool false, .bool false, .bool false, .bool false, .bool false, .bool false, .bool false, .bool false, .bool false, .bool false, .bool false, .bool false, .bool false, .bool false, .bool false, .bool false, .bool false, .bool false, .bool false, .bool false, .bool false, .bool false, .bool false, .bool false, .bool false, .bool false, .bool false, .bool false, .bool false, .bool false, .bool false, .bool false, .bool false, .bool false, .bool false, .bool false, .bool false, .bool false, .bool false, .bool false, .bool false, .bool false, .bool false, .bool false, .bool false, .bool false, .bool false, .bool false, .bool false, .bool false, .bool false, .bool false] 35)) (.blk w2.heap.size (metC (memb set) g g fun _ => false) 35 :: BAR p m a1 c1 (memb set) g g 12 (fun _ => false) [.own 3 1 (.slice al (memb set).length cl) (memb set).length (iv (memb set)), .old w no]) := by
      rw [metC_zero]
      exact hH.out.alloc (List.replicate 72 (.bool false)) 35
    have hH3 := Lib.hid H3
    clear H3 hH
    generalize w2.alloc (.cells #[.bool false, .bool false, .bool false, .bool false, .bool false, .bool false, .bool false, .bool false, .bool false, .bool false, .bool false, .bool false, .bool false, .bool false, .bool false, .bool false, .bool false, .bool false, .bool false, .bool false, .bool false, .bool false, .bool false, .bool false, .bool false, .bool false, .bool false, .bool false, .bool false, .bool false, .bool false, .bool false, .bool false, .bool false, .bool false, .bool false, .bool false, .bool false, .bool false, .bool false, .bool false, .bool false, .bool false, .bool false, .bool false, .bool false, .bool false, .bool false, .bool false, .bool false, .bool false, .bool false, .bool false, .bool false, .bool false, .bool false, .bool false, .bool false, .bool false, .bool false, .bool false, .bool false, .bool false, .bool false, .bool false, .bool false, .bool false, .bool false, .bool false, .bool false, .bool false, .bool false] 35) = w3 at *
    generalize w2.heap.size = q at *
    obtain ⟨x, rfl, rfl, rfl, rfl, rfl, rfl, rfl, rfl, rfl, rfl⟩ : ∃ x : Ac, x.w = w ∧ x.set = set ∧ x.g = g ∧ x.p = p ∧ x.m = m ∧ x.a = a1 ∧ x.c = c1 ∧ x.q = q ∧ x.al = al ∧ x.cl = cl := ⟨⟨w, set, g, p, m, a1, c1, q, al, cl⟩, rfl, rfl, rfl, rfl, rfl, rfl, rfl, rfl, rfl, rfl⟩
    have hA := Lib.hid (show SL w3 (ALL x x.g (fun _ => false)) from hH3.out)
    clear hH3
    obtain ⟨L, hL⟩ : ∃ L, (memb x.set).length = L := ⟨_, rfl⟩
    obtain ⟨l1, l2⟩ := memb_len x.set
    rw [hL] at l1 l2
    have hL' := Lib.hid hL
    rw [hL]
    clear hL
    obtain ⟨al, hal0⟩ : ∃ al, x.al = al := ⟨_, rfl⟩
    rw [hal0]
    have hal := Lib.hid hal0
    clear hal0
    go_loopw [43] (fun i V => ∃ (k f : Nat) (ps : Int → Bool), k ≤ len ∧ i = .int .i64 k ∧ x.g ≤ f ∧ f ≤ 12 ∧ missL (memb x.set) ps ≠ [] ∧ SL V (ALL x f ps)) (fun i _ => len - (intOf i).toNat)
    case atStart => exact ⟨0, x.g, _, by omega, rfl, by omega, by omega, missL_none (memb_ne x.set), hA.out⟩
    case round =>
      clear hA
      obtain ⟨k, f, ps, hk, rfl, hgf, hf, hps, H⟩ := hrel
      by_cases hkl : k < len
      · obtain ⟨b, o, rfl, y1, y2, hz1, hz2⟩ := (ho'.out.no (all_kp H)) k hkl
        generalize (ops k).1 = z1 at *
        generalize (ops k).2 = z2 at *
        have e1 : z1 % 6 = ((z1 % 6).toNat : Int) := by omega
        have e2 : z2 % 12 = ((z2 % 12).toNat : Int) := by omega
        have n1 : (z1 % 6).toNat < 6 := by omega
        have n2 : (z2 % 12).toNat < 12 := by omega
        generalize (z1 % 6).toNat = n at *
        generalize (z2 % 12).toNat = j at *
        have hH := Lib.hid H
        clear H
        go_wp2_with fail
        go_quiet (fail)
        have H := hH.out.drewN nq
        clear hH
        generalize wr.drewN nq = w4 at *
        obtain ⟨on, e, f', ps', hr, hps', hf', hgf', hrel⟩ := pass3 (x := (n : Int)) hps hf hgf n2
        have hF := Lib.hid (all_frame H)
        have hH := Lib.hid H
        have hr' := Lib.hid hr
        have hrel' := Lib.hid hrel
        have hps2 := Lib.hid hps'
        clear H hr hrel y1 y2 hz1 hz2 e1 e2 hps hps'
        go_wp2_with fail
        refine hF.out.mono ?_
        rintro e0 w5 ⟨rfl, H⟩
        have hP := Lib.hid (all_passed H hf hr'.out)
        clear hF hH H
        go_wp2_with fail
        refine hP.out.mono ?_
        rintro e0 w6 ⟨rfl, H⟩
        have hF := Lib.hid (mid_frame H)
        clear hP H
        go_wp2_with fail
        refine hF.out.mono ?_
        rintro e0 w7 ⟨rfl, H⟩
        have hH := Lib.hid H
        clear hF H
        go_upto_if 78 with (fail)
        go_cut [] from 79 to 82 (fun V => SL V (ALL x f' ps'))
        case first =>
          rcases hrel'.out with ⟨rfl, rfl, rfl, rfl⟩ | ⟨rfl, hkf, hM, -⟩
          · go_wp2_with fail
            go_meet
            case rel => exact hH.out
          · have hst : SL (w7.setCell ⟨x.q, n * 12 + j, none⟩ (.bool true)) (ALL x f' ps') := by
              have h := hH.out.setCell (n * 12 + j) (.bool true)
              rw [metC_set n1 n2 hM] at h
              exact h
            have hst' := Lib.hid hst
            have hM' := Lib.hid hM
            have hc := hH.out.cell (o := n * 12 + j) (.here _ _) (metC_at n1 n2)
            have hfz := hH.out.free (o := n * 12 + j) (.here _ _)
            clear hst hM
            go_wp2_with fail
            go_meet
            case rel => exact hst'.out
        case rest =>
          have hH := Lib.hid hcut
          clear hcut
          go_upto_region 15 with (fail)
          go_cut [116] from 83 to 116 (fun t V => t = .bool false ∧ wc = V)
          case first =>
            rcases hrel'.out with ⟨rfl, rfl, rfl, rfl⟩ | ⟨rfl, hkf, -, ⟨rfl, rfl⟩ | ⟨rfl, rfl⟩⟩
            · go_wp2_with fail
              go_meet
              case rel => exact ⟨congrArg Value.bool (by simp; try omega), rfl⟩
            · go_wp2_with fail
              go_meet
              case rel => exact ⟨congrArg Value.bool (by simp; try omega), rfl⟩
            · go_wp2_with fail
              go_meet
              case rel => exact ⟨congrArg Value.bool (by simp; try omega), rfl⟩
          case rest =>
            obtain ⟨rfl, rfl⟩ := hcut
            clear hr' hrel'
            have mem_ : Hid (∀ i, i < L → ∃ (bm om mN : Nat), al = some ⟨bm, om, none⟩ ∧ wc.cell? ⟨bm, om + i, none⟩ = some (.int .i64 (mN : Int)) ∧ mN < 6 ∧ (mN : Int) ∈ memb x.set ∧ (memb x.set).take (i + 1) = (memb x.set).take i ++ [(mN : Int)]) := by
              refine Lib.hid fun i hi => ?_
              have hi' : i < (memb x.set).length := by rw [hL'.out]; exact hi
              obtain ⟨bm, om, e3, e4⟩ := (all_mem hH.out) i hi'
              have hmem := List.getElem_mem hi'
              have hlt := memb_lt x.set _ hmem
              have ht := List.take_succ_eq_append_getElem hi'
              obtain ⟨mN, hmN⟩ : ∃ mN : Nat, (memb x.set)[i]'hi' = (mN : Int) := ⟨((memb x.set)[i]'hi').toNat, by omega⟩
              have e4' : wc.cell? ⟨bm, om + i, none⟩ = some (.int .i64 (mN : Int)) := by
                rw [e4]; simp only [List.getD_eq_getElem?_getD, List.getElem?_eq_getElem hi', Option.getD_some, hmN]
              rw [hmN] at hmem hlt ht
              exact ⟨bm, om, mN, by rw [← hal.out]; exact e3, e4', by omega, hmem, ht⟩
            go_wp2_with fail
            go_loopw [119] (fun c V => ∃ i : Nat, i ≤ L ∧ c = .int .i64 i ∧ wc = V) (fun c _ => L - (intOf c).toNat)
            case atStart => exact ⟨0, by omega, rfl, rfl⟩
            case round =>
              obtain ⟨i, hi, rfl, rfl⟩ := hrel
              by_cases hiL : i < L
              · obtain ⟨bm, om, mN, rfl, y1, y2, y3, -⟩ := mem_.out i hiL
                have y3' := Lib.hid y3
                clear y3
                go_wp2_with fail
                go_loopw [22] (fun c V => ∃ q : Nat, x.g ≤ q ∧ q ≤ f' ∧ c = .int .i64 q ∧ wc = V) (fun c _ => f' - (intOf c).toNat)
                case atStart => exact ⟨x.g, by omega, hgf', rfl, rfl⟩
                case round =>
                  obtain ⟨q, hq0, hq, rfl, rfl⟩ := hrel
                  by_cases hqf : q < f'
                  · have hc := all_cell hH.out y2 (show q < 12 by omega)
                    rw [hasM_below y3'.out (by omega) (by omega)] at hc
                    go_wp2_with fail
                    go_roundw
                    case rel => exact ⟨q + 1, by omega, by omega, by go_num, trivial⟩
                    case measure => (simp [intOf]; try omega)
                  · go_wp2_with fail
                    go_roundw
                    case rel => exact ⟨i + 1, by omega, by go_num, trivial⟩
                    case measure => (simp [intOf]; try omega)
              · obtain rfl : i = L := by omega
                have hrel0 : AllRel x f' ps' 0 (decide ((f' : Int) < 12)) := fun h => ⟨by have := of_decide_eq_true h; omega, by simp⟩
                have hrel0' := Lib.hid hrel0
                obtain ⟨bb, hbb⟩ : ∃ bb, decide ((f' : Int) < 12) = bb := ⟨_, rfl⟩
                rw [hbb] at hrel0'
                clear hrel0
                go_wp2_with fail
                go_loopw [23, 142] (fun s c V => ∃ (j : Nat) (b : Bool), j ≤ i ∧ c = .int .i64 j ∧ s = .bool b ∧ Hid (AllRel x f' ps' j b) ∧ wc = V) (fun _ c _ => i - (intOf c).toNat)
                case atStart => exact ⟨0, bb, by omega, rfl, rfl, hrel0', rfl⟩
                case round =>
                  obtain ⟨j, b, hj, rfl, rfl, hR, rfl⟩ := hrel
                  by_cases hji : j < i
                  · obtain ⟨bm, om, mN, rfl, y1, y2, y3, y4⟩ := mem_.out j hji
                    have y3' := Lib.hid y3
                    have y4' := Lib.hid y4
                    clear y3 y4
                    cases b
                    · go_wp2_with fail
                      go_roundw
                      case rel => exact ⟨j + 1, false, by omega, by go_num, rfl, Lib.hid (fun h => by cases h), trivial⟩
                      case measure => (simp [intOf]; try omega)
                    · obtain ⟨hlt, hall⟩ := hR.out rfl
                      have hc := all_cell hH.out y2 hlt
                      have hnext : Hid (AllRel x f' ps' (j + 1) (hasM x.g f' (memb x.set) ps' mN f')) := Lib.hid fun h => ⟨hlt, fun y hy => by
                        rw [y4'.out, List.mem_append, List.mem_singleton] at hy
                        rcases hy with hy | rfl
                        · exact hall y hy
                        · exact h⟩
                      have hmin : min (f' : Int) 11 = f' := by omega
                      generalize hasM x.g f' (memb x.set) ps' mN f' = v at *
                      clear hall
                      go_wp2_with fail
                      go_roundw
                      case rel => exact ⟨j + 1, v, by omega, by go_num, rfl, hnext, trivial⟩
                      case measure => (simp [intOf]; try omega)
                  · obtain rfl : j = i := by omega
                    obtain rfl : b = false := by
                      cases b with
                      | false => rfl
                      | true =>
                        obtain ⟨-, h⟩ := hR.out rfl
                        rw [List.take_of_length_le (by rw [hL'.out]; omega)] at h
                        exact (not_all hps2.out hgf' h).elim
                    go_wp2_with fail
                    go_roundw
                    case rel =>
                      exact ⟨k + 1, f', ps', by omega, by go_num, hgf', hf', hps2.out, hH.out⟩
                    case measure => (simp [intOf]; try omega)
      · obtain rfl : k = len := by omega
        have hH := Lib.hid H
        clear H hps
        go_wp2_with fail
        go_ret
        exact ⟨rfl, all_kp hH.out⟩
end Go.Proofs.Ytejgkehcplajhaa
