/- The walk of the reference's Ready. -/
import Derived.Test.YtaibdcglhibglaaRefQ
namespace Go.Proofs.Ytaibdcglhibglaa
open Go.RowKit
set_option linter.unusedVariables false

theorem missL_nil {ms : List Int} {ps : Int → Bool} : missL ms ps = [] ↔ ∀ x ∈ ms, ps x = true := by
  unfold missL
  rw [List.filter_eq_nil_iff]
  constructor
  · intro h x hx; have := h x hx; simpa using this
  · intro h x hx; simp [h x hx]

set_option maxHeartbeats 8000000 in
theorem refReady_c {p : Nat} {a : Option Addr} {c0 b : Nat} (x : St) {L0 : List Pc} {w : World} (H0 : SL w (RS p a c0 b x L0)) (hm : x.ms.length ≤ 1000000) (hms : ∀ i ∈ x.ms, 0 ≤ i ∧ i < x.nodes) :
    Calls Try.prog 27 #[.pointer (some ⟨p, 0, none⟩)] w fun r w' => r = .returned (.tuple #[.int .i64 x.ready.1, .bool x.ready.2]) ∧ SL w' (RS p a c0 b x L0) := by
  have hHH := Lib.hid H0
  obtain ⟨self, nodes, disp, N, By, ms, gN, gBy, owes, ps, count⟩ := x
  dsimp only at hm hms
  obtain ⟨Y, hY⟩ : ∃ Y, St.ready ⟨self, nodes, disp, N, By, ms, gN, gBy, owes, ps, count⟩ = Y := ⟨_, rfl⟩
  rw [hY]
  unfold St.ready at hY
  dsimp only at hY
  have hY' := Lib.hid hY
  clear hY
  have hin := Lib.hid (fun V (h : SL V [.own 3 1 (.slice a ms.length c0) ms.length (iv ms)]) => refIn_c disp ms a c0 V (by omega) (OwnK.rdI (show OwnK V 0 3 1 _ _ (iv ms) from h.ownOf (.here _ _))).2.2)
  have hms' := Lib.hid hms
  obtain ⟨nn, hnn⟩ : ∃ nn, nodes.toNat = nn := ⟨_, rfl⟩
  have hH0 : SL w (refB p self nodes disp N By (.slice a ms.length c0) gN gBy owes (.slice (some ⟨b, 0, none⟩) nodes.toNat nodes.toNat) count :: .own 3 1 (.slice a ms.length c0) ms.length (iv ms) :: .own 4 1 (.slice (some ⟨b, 0, none⟩) nodes.toNat nodes.toNat) nodes.toNat (bv nodes.toNat ps) :: L0) := H0
  obtain ⟨mlen, hmlen⟩ : ∃ len, ms.length = len := ⟨_, rfl⟩
  have hmlen' := Lib.hid hmlen
  have hnn' := Lib.hid hnn
  rw [hmlen] at hin hH0 hm
  rw [hnn] at hH0
  have hH := Lib.hid hH0
  obtain ⟨q5, e5⟩ : ∃ q, decide (disp ∈ ms) = q := ⟨_, rfl⟩
  have e5' := Lib.hid e5
  simp only [e5] at hin
  have p0 := hH0.cell (b := p) (o := 0) (by first | exact .here _ _ | exact .there (.here _ _) | exact .there (.there (.here _ _)) | exact .there (.there (.there (.here _ _))) | exact .there (.there (.there (.there (.here _ _)))) | exact .there (.there (.there (.there (.there (.here _ _))))) | exact .there (.there (.there (.there (.there (.there (.here _ _)))))) | exact .there (.there (.there (.there (.there (.there (.there (.here _ _))))))) | exact .there (.there (.there (.there (.there (.there (.there (.there (.here _ _)))))))) | exact .there (.there (.there (.there (.there (.there (.there (.there (.there (.here _ _))))))))) | exact .there (.there (.there (.there (.there (.there (.there (.there (.there (.there (.here _ _)))))))))) | exact .there (.there (.there (.there (.there (.there (.there (.there (.there (.there (.there (.here _ _))))))))))) | exact .there (.there (.there (.there (.there (.there (.there (.there (.there (.there (.there (.there (.here _ _)))))))))))) | exact .there (.there (.there (.there (.there (.there (.there (.there (.there (.there (.there (.there (.there (.here _ _)))))))))))))) rfl
  have p2 := hH0.cell (b := p) (o := 2) (by first | exact .here _ _ | exact .there (.here _ _) | exact .there (.there (.here _ _)) | exact .there (.there (.there (.here _ _))) | exact .there (.there (.there (.there (.here _ _)))) | exact .there (.there (.there (.there (.there (.here _ _))))) | exact .there (.there (.there (.there (.there (.there (.here _ _)))))) | exact .there (.there (.there (.there (.there (.there (.there (.here _ _))))))) | exact .there (.there (.there (.there (.there (.there (.there (.there (.here _ _)))))))) | exact .there (.there (.there (.there (.there (.there (.there (.there (.there (.here _ _))))))))) | exact .there (.there (.there (.there (.there (.there (.there (.there (.there (.there (.here _ _)))))))))) | exact .there (.there (.there (.there (.there (.there (.there (.there (.there (.there (.there (.here _ _))))))))))) | exact .there (.there (.there (.there (.there (.there (.there (.there (.there (.there (.there (.there (.here _ _)))))))))))) | exact .there (.there (.there (.there (.there (.there (.there (.there (.there (.there (.there (.there (.there (.here _ _)))))))))))))) rfl
  have p4 := hH0.cell (b := p) (o := 4) (by first | exact .here _ _ | exact .there (.here _ _) | exact .there (.there (.here _ _)) | exact .there (.there (.there (.here _ _))) | exact .there (.there (.there (.there (.here _ _)))) | exact .there (.there (.there (.there (.there (.here _ _))))) | exact .there (.there (.there (.there (.there (.there (.here _ _)))))) | exact .there (.there (.there (.there (.there (.there (.there (.here _ _))))))) | exact .there (.there (.there (.there (.there (.there (.there (.there (.here _ _)))))))) | exact .there (.there (.there (.there (.there (.there (.there (.there (.there (.here _ _))))))))) | exact .there (.there (.there (.there (.there (.there (.there (.there (.there (.there (.here _ _)))))))))) | exact .there (.there (.there (.there (.there (.there (.there (.there (.there (.there (.there (.here _ _))))))))))) | exact .there (.there (.there (.there (.there (.there (.there (.there (.there (.there (.there (.there (.here _ _)))))))))))) | exact .there (.there (.there (.there (.there (.there (.there (.there (.there (.there (.there (.there (.there (.here _ _)))))))))))))) rfl
  have p5 := hH0.cell (b := p) (o := 5) (by first | exact .here _ _ | exact .there (.here _ _) | exact .there (.there (.here _ _)) | exact .there (.there (.there (.here _ _))) | exact .there (.there (.there (.there (.here _ _)))) | exact .there (.there (.there (.there (.there (.here _ _))))) | exact .there (.there (.there (.there (.there (.there (.here _ _)))))) | exact .there (.there (.there (.there (.there (.there (.there (.here _ _))))))) | exact .there (.there (.there (.there (.there (.there (.there (.there (.here _ _)))))))) | exact .there (.there (.there (.there (.there (.there (.there (.there (.there (.here _ _))))))))) | exact .there (.there (.there (.there (.there (.there (.there (.there (.there (.there (.here _ _)))))))))) | exact .there (.there (.there (.there (.there (.there (.there (.there (.there (.there (.there (.here _ _))))))))))) | exact .there (.there (.there (.there (.there (.there (.there (.there (.there (.there (.there (.there (.here _ _)))))))))))) | exact .there (.there (.there (.there (.there (.there (.there (.there (.there (.there (.there (.there (.there (.here _ _)))))))))))))) rfl
  have p9 := hH0.cell (b := p) (o := 9) (by first | exact .here _ _ | exact .there (.here _ _) | exact .there (.there (.here _ _)) | exact .there (.there (.there (.here _ _))) | exact .there (.there (.there (.there (.here _ _)))) | exact .there (.there (.there (.there (.there (.here _ _))))) | exact .there (.there (.there (.there (.there (.there (.here _ _)))))) | exact .there (.there (.there (.there (.there (.there (.there (.here _ _))))))) | exact .there (.there (.there (.there (.there (.there (.there (.there (.here _ _)))))))) | exact .there (.there (.there (.there (.there (.there (.there (.there (.there (.here _ _))))))))) | exact .there (.there (.there (.there (.there (.there (.there (.there (.there (.there (.here _ _)))))))))) | exact .there (.there (.there (.there (.there (.there (.there (.there (.there (.there (.there (.here _ _))))))))))) | exact .there (.there (.there (.there (.there (.there (.there (.there (.there (.there (.there (.there (.here _ _)))))))))))) | exact .there (.there (.there (.there (.there (.there (.there (.there (.there (.there (.there (.there (.there (.here _ _)))))))))))))) rfl
  have p10 := hH0.cell (b := p) (o := 10) (by first | exact .here _ _ | exact .there (.here _ _) | exact .there (.there (.here _ _)) | exact .there (.there (.there (.here _ _))) | exact .there (.there (.there (.there (.here _ _)))) | exact .there (.there (.there (.there (.there (.here _ _))))) | exact .there (.there (.there (.there (.there (.there (.here _ _)))))) | exact .there (.there (.there (.there (.there (.there (.there (.here _ _))))))) | exact .there (.there (.there (.there (.there (.there (.there (.there (.here _ _)))))))) | exact .there (.there (.there (.there (.there (.there (.there (.there (.there (.here _ _))))))))) | exact .there (.there (.there (.there (.there (.there (.there (.there (.there (.there (.here _ _)))))))))) | exact .there (.there (.there (.there (.there (.there (.there (.there (.there (.there (.there (.here _ _))))))))))) | exact .there (.there (.there (.there (.there (.there (.there (.there (.there (.there (.there (.there (.here _ _)))))))))))) | exact .there (.there (.there (.there (.there (.there (.there (.there (.there (.there (.there (.there (.there (.here _ _)))))))))))))) rfl
  have co' := Lib.hid (fun k => hin.out (w.drewN k) ((hH.out.drewN k).re (.step (.there (.here _ _)) (.done _))))
  have hback : Hid (SL w (RS p a c0 b ⟨self, nodes, disp, N, By, ms, gN, gBy, owes, ps, count⟩ L0)) := Lib.hid hHH.out
  have hget : Hid (∀ k : Nat, k < nn → w.cell? ⟨b, k, none⟩ = some (.bool (ps k))) := Lib.hid fun k hk => by
    have h := (own_cell (hH.out.ownOf (show Pull _ (.own 4 1 (.slice (some ⟨b, 0, none⟩) nn nn) nn (bv nn ps)) _ from (by first | exact .here _ _ | exact .there (.here _ _) | exact .there (.there (.here _ _)) | exact .there (.there (.there (.here _ _))) | exact .there (.there (.there (.there (.here _ _)))) | exact .there (.there (.there (.there (.there (.here _ _))))) | exact .there (.there (.there (.there (.there (.there (.here _ _)))))) | exact .there (.there (.there (.there (.there (.there (.there (.here _ _))))))) | exact .there (.there (.there (.there (.there (.there (.there (.there (.here _ _)))))))) | exact .there (.there (.there (.there (.there (.there (.there (.there (.there (.here _ _))))))))) | exact .there (.there (.there (.there (.there (.there (.there (.there (.there (.there (.here _ _)))))))))) | exact .there (.there (.there (.there (.there (.there (.there (.there (.there (.there (.there (.here _ _))))))))))) | exact .there (.there (.there (.there (.there (.there (.there (.there (.there (.there (.there (.there (.here _ _)))))))))))) | exact .there (.there (.there (.there (.there (.there (.there (.there (.there (.there (.there (.there (.there (.here _ _)))))))))))))))) hk).1
    rwa [bv_getD _ hk] at h
  have hrd := Lib.hid (OwnK.rdI (show OwnK w 0 3 1 (.slice a mlen c0) mlen (iv ms) from hH0.ownOf (by first | exact .here _ _ | exact .there (.here _ _) | exact .there (.there (.here _ _)) | exact .there (.there (.there (.here _ _))) | exact .there (.there (.there (.there (.here _ _)))) | exact .there (.there (.there (.there (.there (.here _ _))))) | exact .there (.there (.there (.there (.there (.there (.here _ _)))))) | exact .there (.there (.there (.there (.there (.there (.there (.here _ _))))))) | exact .there (.there (.there (.there (.there (.there (.there (.there (.here _ _)))))))) | exact .there (.there (.there (.there (.there (.there (.there (.there (.there (.here _ _))))))))) | exact .there (.there (.there (.there (.there (.there (.there (.there (.there (.there (.here _ _)))))))))) | exact .there (.there (.there (.there (.there (.there (.there (.there (.there (.there (.there (.here _ _))))))))))) | exact .there (.there (.there (.there (.there (.there (.there (.there (.there (.there (.there (.there (.here _ _)))))))))))) | exact .there (.there (.there (.there (.there (.there (.there (.there (.there (.there (.there (.there (.there (.here _ _)))))))))))))))).2.2
  clear H0 hH0 hHH hH hms hmlen hnn e5 hin
  go_enter Try.func27, Try.ntmps27
  go_wp2_with fail
  go_quiet ((go_at_call 50; exact quiet_eq (co'.out _)))
  clear co'
  go_wp2_with fail
  by_cases h1 : By = self
  · have h1b : (By != self) = false := by simpa using h1
    have h1' := Lib.hid h1
    clear h1
    cases q5
    · have hfin := Lib.hid (show Y = (0, false) from by rw [← hY'.out, if_neg (fun h => (of_decide_eq_false e5'.out) h.2.1)])
      clear hY'
      go_quiet (fail)
      go_wp2_with fail
      go_ret2
      exact ⟨by rw [hfin.out]; rfl, by first | exact hback.out.drewN _ | exact (hback.out.drewN _).drewN _ | exact ((hback.out.drewN _).drewN _).drewN _⟩
    · have hYY : Hid ((missL ms ps = [] → Y = (count, true)) ∧ (missL ms ps ≠ [] → Y = (0, false))) := Lib.hid ⟨fun h => by rw [← hY'.out, if_pos ⟨h1'.out, of_decide_eq_true e5'.out, h⟩], fun h => by rw [← hY'.out, if_neg (fun h2 => h h2.2.2)]⟩
      clear hY'
      go_quiet (fail)
      go_wp2_with fail
      go_loopw [5] (fun i V => ∃ j : Nat, j ≤ mlen ∧ i = .int .i64 j ∧ Hid (∀ k (h : k < j) (h' : k < ms.length), ps (ms[k]'h') = true) ∧ ∃ d, V = w.drewN d) (fun i _ => mlen - (intOf i).toNat)
      case atStart => exact ⟨0, by omega, rfl, Lib.hid (by intro k h; omega), by first | exact ⟨_, rfl⟩ | exact ⟨_, World.drewN_drewN _ _ _⟩⟩
      case round =>
        obtain ⟨j, hj, rfl, hall, d, rfl⟩ := hrel
        by_cases hjn : j < mlen
        · have hjl : j < ms.length := by rw [hmlen'.out]; exact hjn
          obtain ⟨bb, oo, rfl, hc⟩ := hrd.out.cell hjl
          have hy := hms'.out _ (List.getElem_mem hjl)
          obtain ⟨y, hyy⟩ : ∃ y : Nat, ms[j]'hjl = (y : Int) := ⟨(ms[j]'hjl).toNat, by omega⟩
          rw [hyy] at hc hy
          have hyn : y < nn := by rw [← hnn'.out]; omega
          have hcb := hget.out y hyn
          have hyy' := Lib.hid hyy
          clear hyy hy
          obtain ⟨e, he⟩ : ∃ e, ps (y : Int) = e := ⟨_, rfl⟩
          rw [he] at hcb
          have he' := Lib.hid he
          clear he
          cases e
          · have hfin := Lib.hid (hYY.out.2 (fun h => by have h2 := missL_nil.1 h _ (List.getElem_mem hjl); rw [hyy'.out, he'.out] at h2; cases h2))
            clear hYY hall
            go_wp2_with fail
            go_quiet (fail)
            go_wp2_with fail
            go_ret2
            exact ⟨by rw [hfin.out]; rfl, by first | exact hback.out.drewN _ | exact (hback.out.drewN _).drewN _ | exact ((hback.out.drewN _).drewN _).drewN _⟩
          · have hall2 := Lib.hid (show ∀ k (h : k < j + 1) (h' : k < ms.length), ps (ms[k]'h') = true from fun k hk h' => by
              by_cases e : k = j
              · subst e; rw [hyy'.out]; exact he'.out
              · exact hall.out k (by omega) h')
            clear hall
            go_wp2_with fail
            go_quiet (fail)
            go_wp2_with fail
            go_roundw
            case rel => exact ⟨j + 1, by omega, by go_num, hall2, by first | exact ⟨_, rfl⟩ | exact ⟨_, World.drewN_drewN _ _ _⟩⟩
            case measure => (simp [intOf]; try omega)
        · obtain rfl : j = mlen := by omega
          have hfin := Lib.hid (hYY.out.1 (missL_nil.2 fun z hz => by
            obtain ⟨k, hk, rfl⟩ := List.mem_iff_getElem.1 hz
            exact hall.out k (by rw [← hmlen'.out]; exact hk) hk))
          clear hYY hall
          go_wp2_with fail
          go_ret2
          exact ⟨by rw [hfin.out]; rfl, by first | exact hback.out.drewN _ | exact (hback.out.drewN _).drewN _ | exact ((hback.out.drewN _).drewN _).drewN _⟩
  · have h1b : (By != self) = true := by simpa using h1
    have hfin := Lib.hid (show Y = (0, false) from by rw [← hY'.out, if_neg (fun h => h1 h.1)])
    clear h1 hY'
    go_quiet (fail)
    go_wp2_with fail
    go_ret2
    exact ⟨by rw [hfin.out]; rfl, by first | exact hback.out.drewN _ | exact (hback.out.drewN _).drewN _ | exact ((hback.out.drewN _).drewN _).drewN _⟩
end Go.Proofs.Ytaibdcglhibglaa
