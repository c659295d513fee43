/- StateWhole: the law's walk. Arguments opened: what is read as a datum is one of ours. -/
import Derived.Test.YtpgocpodhamibaaGreatDoorW03
import Derived.Test.YtpgocpodhamibaaGreatDoorK01
import Derived.Test.YtpgocpodhamibaaGreatDoorProg
import Derived.Deep.Slices
import Derived.ChangeSame
import Derived.ChangeArms
namespace Go.Proofs.YtpgocpodhamibaaGreatDoor
open Go.RowKit

set_option maxRecDepth 20000 in
set_option maxHeartbeats 12800000 in
theorem whole_true (b o : Batch) (A A' : Option Addr) (c c' : Nat) (w : World) (hb : BatIn w b A c) (ho : BatIn w o A' c') (hT : Tabs w) (h2 : 2 ≤ w.heap.size) :
    Calls Tryz.prog 9 #[.agg #[.string b.key, .slice A b.puts.length c], .agg #[.string o.key, .slice A' o.puts.length c'], .bool true] w fun e w' => e = .returned (.bool true) ∧ Below w.heap.size w w' := by
  have CA := Lib.hid (fun W (hW : Below w.heap.size w W) => awake_any W (hT.below hW) (by have := hW.size; omega))
  have HWB := Lib.hid (WhB.start hb ho hT)
  have HK := Lib.hid (And.intro (And.intro hb.key hb.cap) (And.intro ho.key ho.cap))
  clear hb ho hT
  go_enter Tryz.func9, Tryz.ntmps9
  go_upto_region 1 with fail
  refine forget (M := fun W => Code.wp _ _ _ _ W) (fun W => WhB w b o A A' c c' W) HWB.out ?_
  clear HWB
  rintro w0 hW
  have HW := Lib.hid hW
  have x0 : w0.cell? ⟨w.heap.size, 0, none⟩ = some (.string b.key) := hW.x.cell 0
  have x1 : w0.cell? ⟨w.heap.size, 1, none⟩ = some (.slice A b.puts.length c) := hW.x.cell 1
  have S1 := sizeB_any b A c 5000 _ w0 hW.r HK.out.1.1 ⟨by omega, by omega⟩
  clear hW
  go_wp2_with fail
  refine S1.mono ?_
  clear S1 x0 x1
  rintro e wa ⟨⟨k1, rfl, hk0, hk1, hk⟩, hba⟩
  have hWa := HW.out.ext hba
  have HWA := Lib.hid hWa
  by_cases hle : (5000 : Int) < k1
  · clear hk hWa hba
    go_wp2_with fail
    refine (CA.out wa HWA.out.below).mono ?_
    rintro e w1 ⟨rfl, hb1⟩
    go_wp2_with fail
    go_ret
    exact ⟨rfl, HWA.out.below.tr hb1⟩
  have HSB := Lib.hid (show sizeB b ≤ 5000 from by have := hk (by omega); omega)
  have y0 : wa.cell? ⟨w.heap.size + 1, 0, none⟩ = some (.string o.key) := hWa.y.cell 0
  have y1 : wa.cell? ⟨w.heap.size + 1, 1, none⟩ = some (.slice A' o.puts.length c') := hWa.y.cell 1
  have S2 := sizeB_any o A' c' 5000 _ wa hWa.q HK.out.2.1 ⟨by omega, by omega⟩
  clear hk hWa hba
  go_wp2_with fail
  refine S2.mono ?_
  clear S2 y0 y1
  rintro e wb ⟨⟨k2, rfl, hk20, hk21, hk⟩, hbb⟩
  have HWB := Lib.hid (HWA.out.ext hbb)
  clear hbb
  by_cases hle2 : (5000 : Int) < k2
  · clear hk
    go_wp2_with fail
    refine (CA.out wb HWB.out.below).mono ?_
    rintro e w1 ⟨rfl, hb1⟩
    go_wp2_with fail
    go_ret
    exact ⟨rfl, HWB.out.below.tr hb1⟩
  have HSO := Lib.hid (show sizeB o ≤ 5000 from by have := hk (by omega); omega)
  have hbn := (sizeB_bd HSB.out).1
  have hon := (sizeB_bd HSO.out).1
  have C1 := newState_any 1 1 wb (i64_small 1 (by omega)) (i64_small 1 (by omega))
  unfold GotState at C1
  have HNW := Lib.hid (show newS 1 1 = some awS from by kernel_rfl)
  rw [HNW.out] at C1
  clear hk HWA HW
  have hz0 := HWB.out.size
  go_wp2_with fail
  refine C1.mono ?_
  clear C1
  rintro e w1 ⟨⟨g, rfl, hg, hst, _⟩, hb1⟩
  have hz1 : wb.heap.size ≤ w1.heap.size := hb1.size
  have hgl := hst.lt
  have HST := Lib.hid (And.intro hst hb1)
  clear hst hb1
  unfold ptrV
  go_upto_region 7 with fail
  have hb2 := (Below.refl w1.heap.size w1).al (.cells #[.int .i64 1, .int .i64 1, .int .i64 1] 34)
  have BT := Blk.new w1 34 [.int .i64 1, .int .i64 1, .int .i64 1]
  have hst2 := (HST.out.1.ext hb2).mono (Q := fun k => w.heap.size + 2 ≤ k ∧ k ≠ g) (fun k hk => ⟨by have := hk.1; omega, hk.2⟩)
  have hW2 := (HWB.out.ext HST.out.2).ext hb2
  have hz2 : (w1.alloc (.cells #[.int .i64 1, .int .i64 1, .int .i64 1] 34)).heap.size = w1.heap.size + 1 := by simp
  generalize hw2 : (w1.alloc (.cells #[.int .i64 1, .int .i64 1, .int .i64 1] 34)) = w2 at *
  clear hw2
  have hI0 := inv_new HNW.out
  have C := applyK_4 g awS (wholeP b) none A none 0 c 0 _ (fun k => k < w.heap.size) w2 hst2 (fun h => h.2 rfl) (hI0.fit (by omega)) (wholeP_at HK.out.1.1 HK.out.1.2 hW2.r) (fun h => by omega) (wholeP_fair HSB.out) hW2.tabs (by omega) rfl
  unfold StOut ptrV at C
  have x0 : w2.cell? ⟨w.heap.size, 0, none⟩ = some (.string b.key) := hW2.x.cell 0
  have x1 : w2.cell? ⟨w.heap.size, 1, none⟩ = some (.slice A b.puts.length c) := hW2.x.cell 1
  have t0 : w2.cell? ⟨w1.heap.size, 0, none⟩ = some (.int .i64 1) := BT.cell 0
  have t1 : w2.cell? ⟨w1.heap.size, 1, none⟩ = some (.int .i64 1) := BT.cell 1
  have t2 : w2.cell? ⟨w1.heap.size, 2, none⟩ = some (.int .i64 1) := BT.cell 2
  have H2 := Lib.hid (And.intro BT (And.intro hW2 hI0))
  clear BT hW2 hI0 hst2 hb2 HWB HST
  by_cases hz : (applyS awS (wholeP b)).2 = 0
  · obtain ⟨hI1, hck, f, hheld, hdec⟩ := whole_held HNW.out hz
    rw [hz] at C
    generalize (applyS awS (wholeP b)).1 = s1 at *
    have H1 := Lib.hid (And.intro hI1 (And.intro hheld hdec))
    clear hI1 hck hheld hdec hz
    go_wp2_with fail
    refine C.mono ?_
    clear C x0 x1 t0 t1 t2
    rintro e w3 ⟨rfl, hst3, hO3⟩
    have hz3 := hO3.size
    have H3 := Lib.hid (And.intro (hst3.mono (Q := fun k => w.heap.size + 2 ≤ k ∧ k ≠ g) (fun k hk => by
      rcases hk with h | h
      · exact h
      · exact ⟨by omega, by omega⟩)) (And.intro (H2.out.2.1.only hO3 (by omega)) (H2.out.1.only hO3 (fun e => by have e' : w1.heap.size = g := e; omega))))
    clear hst3 hO3
    go_wp2_with fail
    go_loopw [10, 11] (fun sv iv wr => ∃ (i : Nat) (sh : Bool), i ≤ b.puts.length ∧ iv = .int .i64 i ∧ sv = .bool sh ∧ (sh = true → SharedB b o) ∧ Below w3.heap.size w3 wr) (fun _ iv _ => b.puts.length - (intOf iv).toNat)
    case atStart => exact ⟨0, false, Nat.zero_le _, rfl, rfl, fun h => (by cases h), Below.refl _ _⟩
    case round =>
      obtain ⟨i, sh, hin, rfl, rfl, hsh, hbl⟩ := hrel
      have HSH := Lib.hid (And.intro hsh hbl)
      have x1 : wr.cell? ⟨w.heap.size, 1, none⟩ = some (.slice A b.puts.length c) := (H3.out.2.1.x.ext hbl).cell 1
      clear hsh hbl
      by_cases hlt : i < b.puts.length
      · have hlt' : (i : Int) < b.puts.length := by omega
        go_wp2_with fail
        clear x1
        go_loopw [10, 12] (fun sv kv wr => ∃ (k : Nat) (sh : Bool), k ≤ o.puts.length ∧ kv = .int .i64 k ∧ sv = .bool sh ∧ (sh = true → SharedB b o) ∧ Below w3.heap.size w3 wr) (fun _ kv _ => o.puts.length - (intOf kv).toNat)
        case atStart => exact ⟨0, sh, Nat.zero_le _, rfl, rfl, HSH.out.1, HSH.out.2⟩
        case round =>
          obtain ⟨k, sh2, hkn, rfl, rfl, hsh, hbl⟩ := hrel
          have HS2 := Lib.hid (And.intro hsh hbl)
          have hW4 := H3.out.2.1.ext hbl
          have x1 : wr.cell? ⟨w.heap.size, 1, none⟩ = some (.slice A b.puts.length c) := hW4.x.cell 1
          have y1 : wr.cell? ⟨w.heap.size + 1, 1, none⟩ = some (.slice A' o.puts.length c') := hW4.y.cell 1
          clear hsh hbl
          by_cases hlt2 : k < o.puts.length
          · have hlt2' : (k : Int) < o.puts.length := by omega
            cases sh2
            · have hli := List.getElem?_eq_getElem hlt
              have hlk := List.getElem?_eq_getElem hlt2
              have hmi := List.getElem_mem hlt
              have hmk := List.getElem_mem hlt2
              obtain ⟨bb, ob, cs, rfl, _, _, hrep, hcs⟩ := hW4.r.at_ hli
              obtain ⟨bb', ob', cs', rfl, _, _, hrep', hcs'⟩ := hW4.q.at_ hlk
              generalize b.puts[i] = p at *
              generalize o.puts[k] = q at *
              obtain ⟨Ad, cd, rfl, _, _, _, _, _⟩ := put_rep.1 hrep
              obtain ⟨Ad', cd', rfl, _, _, _, _, _⟩ := put_rep.1 hrep'
              have d0 := hcs' 0 _ rfl
              have c0 := hcs 0 _ rfl
              simp only [PutR_size, Nat.add_zero] at c0 d0
              have HM := Lib.hid (And.intro hmi hmk)
              clear hli hlk hmi hmk hrep hrep' hcs hcs' hW4
              by_cases heq : p.stream = q.stream
              · have HEQ := Lib.hid heq
                rw [heq] at c0
                clear heq
                go_wp2_with fail
                go_quiet (fail)
                go_wp2_with fail
                go_round
                case rel => exact ⟨k + 1, true, by omega, by go_num, rfl, fun _ => ⟨p, HM.out.1, q, HM.out.2, HEQ.out⟩, HS2.out.2.drewN _⟩
                case measure => simp [intOf]; omega
              · have hne : (p.stream.toList == q.stream.toList) = false := by
                  rw [beq_eq_false_iff_ne]; intro h; exact heq (str_ext h)
                clear heq
                go_wp2_with fail
                go_quiet (fail)
                go_wp2_with fail
                go_round
                case rel => exact ⟨k + 1, false, by omega, by go_num, rfl, fun h => (by cases h), HS2.out.2.drewN _⟩
                case measure => simp [intOf]; omega
            · clear hW4
              go_wp2_with fail
              go_quiet (fail)
              go_wp2_with fail
              go_round
              case rel => exact ⟨k + 1, true, by omega, by go_num, rfl, fun _ => (by first | exact HS2.out.1 rfl | exact HS2.out.1 trivial), HS2.out.2.drewN _⟩
              case measure => simp [intOf]; omega
          · have hkn2 : k = o.puts.length := by omega
            clear hW4
            go_wp2_with fail
            go_round
            case rel => exact ⟨i + 1, sh2, by omega, by go_num, rfl, HS2.out.1, HS2.out.2⟩
            case measure => simp [intOf]; omega
      · have hin2 : i = b.puts.length := by omega
        have hsz := (sizeB_bd HSB.out).2.2
        have hW4 := H3.out.2.1.ext HSH.out.2
        have y0 : wr.cell? ⟨w.heap.size + 1, 0, none⟩ = some (.string o.key) := hW4.y.cell 0
        have y1 : wr.cell? ⟨w.heap.size + 1, 1, none⟩ = some (.slice A' o.puts.length c') := hW4.y.cell 1
        have hwz := HSH.out.2.size
        have hc1 := whole_commit (other := o) H1.out.1 (by omega)
        have C3 := applyK_3 g s1 (wholeC o) none A' none 0 c' 0 _ (fun k => k < w.heap.size) wr (H3.out.1.ext HSH.out.2) (fun h => h.2 rfl) (H1.out.1.fit (by omega)) (wholeC_at HK.out.2.1 HK.out.2.2 hW4.q) (fun h => by omega) (wholeC_fair HSO.out) hW4.tabs (by omega) rfl
        unfold StOut ptrV at C3
        have hno : sh = true → ((applyS s1 (wholeC o)).2 == 0) = false := fun hs => by
          rw [beq_eq_false_iff_ne]; intro e
          obtain ⟨p, hp, q, hq, hpq⟩ := HSH.out.1 hs
          exact whole_shared H1.out.2.1 e p hp q hq hpq
        have hBT4 := H3.out.2.2.ext HSH.out.2
        generalize applyS s1 (wholeC o) = r2 at hc1 C3 hno
        obtain ⟨s2, code2⟩ := r2
        dsimp only at hc1 C3 hno
        have H4 := Lib.hid (And.intro hc1 (And.intro hW4 hBT4))
        have HNO := Lib.hid hno
        clear hW4 hc1 hno hBT4
        go_wp2_with fail
        refine C3.mono ?_
        clear C3 x1 y0 y1
        rintro e w5 ⟨rfl, hst5, hO5⟩
        have hz5 := hO5.size
        have H5 := Lib.hid (And.intro (hst5.mono (Q := fun k => w.heap.size + 2 ≤ k ∧ k ≠ g) (fun k hk => by
          rcases hk with h | h
          · exact h
          · exact ⟨by omega, by omega⟩)) (And.intro (H4.out.2.1.only hO5 (by omega)) (H4.out.2.2.only hO5 (fun e => by have e' : w1.heap.size = g := e; omega))))
        have HI2 := Lib.hid (show Inv s2 10000 from H4.out.1.1.mono (by have := (sizeB_bd HSO.out).2.2; omega))
        clear hst5 hO5
        have CL2 := slog_any g s2 _ w5 H5.out.1 (by have := HI2.out.self; omega) (by have := HI2.out.log; omega)
        have HLL := Lib.hid (show s2.log.length ≤ 10000 from by have := HI2.out.log; omega)
        unfold GotOwn ptrV at CL2
        cases sh
        case' true => have hno := HNO.out rfl
        all_goals
          go_wp2_with fail
          refine CL2.mono ?_
          clear CL2
          rintro e w6 ⟨⟨v6, rfl, hv6⟩, hb6⟩
          obtain ⟨A6, c6, rfl, _⟩ := hv6.form
          have hz6 := hb6.size
          have H6 := Lib.hid (And.intro (H5.out.1.ext hb6) (And.intro (H5.out.2.1.ext hb6) (H5.out.2.2.ext hb6)))
          have hl0 : 0 ≤ (s2.log.length : Int) := Int.natCast_nonneg _
          have hl1 : (s2.log.length : Int) ≤ 10000 := by have := HLL.out; omega
          clear hv6 hb6
          go_upto_region 24 with fail
          have hb7 := (Below.refl w6.heap.size w6).al (.cells #[.int .i64 7, .int .i64 0, .int .i64 1] 37)
          have BS := Blk.new w6 37 [.int .i64 7, .int .i64 0, .int .i64 1]
          have hz7 : (w6.alloc (.cells #[.int .i64 7, .int .i64 0, .int .i64 1] 37)).heap.size = w6.heap.size + 1 := by simp
          generalize hw7 : (w6.alloc (.cells #[.int .i64 7, .int .i64 0, .int .i64 1] 37)) = w7 at *
          clear hw7
          have hst7 := H6.out.1.ext hb7
          have hW7 := H6.out.2.1.ext hb7
          have BT7 := H6.out.2.2.ext hb7
          have C5 := applyK_5 g s2 (wholeD true) none none none 0 0 0 _ (fun _ => False) w7 hst7 (fun h => h.2 rfl) (HI2.out.fit (by omega)) (wholeD_at _) (fun h => h) (wholeD_fair _) hW7.tabs (by omega) rfl
          unfold StOut ptrV at C5
          obtain ⟨hd1, hd2, hd3, E, hE1, hE2, hE3⟩ := whole_decide (yes := true) (H4.out.1.2.1.trans H1.out.2.1)
          have hI3 := apply_inv (r := wholeD true) HI2.out (by omega)
          rw [hd1] at C5
          generalize (applyS s2 (wholeD true)).1 = s3 at *
          have H7 := Lib.hid (And.intro hd2 (And.intro hd3 (And.intro (hI3.mono (M := 20000) (by show 10000 + (0 + 0) ≤ _; omega)) (And.intro hE1 (And.intro hE2 hE3)))))
          have t0 : w7.cell? ⟨w1.heap.size, 0, none⟩ = some (.int .i64 1) := BT7.cell 0
          have t1 : w7.cell? ⟨w1.heap.size, 1, none⟩ = some (.int .i64 1) := BT7.cell 1
          have t2 : w7.cell? ⟨w1.heap.size, 2, none⟩ = some (.int .i64 1) := BT7.cell 2
          have u0 : w7.cell? ⟨w6.heap.size, 0, none⟩ = some (.int .i64 7) := BS.cell 0
          have u1 : w7.cell? ⟨w6.heap.size, 1, none⟩ = some (.int .i64 0) := BS.cell 1
          have u2 : w7.cell? ⟨w6.heap.size, 2, none⟩ = some (.int .i64 1) := BS.cell 2
          have HB7 := Lib.hid (And.intro hW7 (And.intro BT7 BS))
          clear hd1 hd2 hd3 hI3 hE1 hE2 hE3 hst7 hW7 BT7 BS hb7
          go_wp2_with fail
          refine C5.mono ?_
          clear C5 t0 t1 t2 u0 u1 u2
          rintro e w8 ⟨rfl, hst8, hO8⟩
          have hz8 := hO8.size
          have hW8 := HB7.out.1.only hO8 (by omega)
          have BT8 := HB7.out.2.1.only hO8 (fun e => by have e' : w1.heap.size = g := e; omega)
          have BS8 := HB7.out.2.2.only hO8 (fun e => by have e' : w6.heap.size = g := e; omega)
          have CH := heldNo_any g s3 _ w8 hst8 (by have := H7.out.2.2.1.self; omega) H7.out.1
          unfold ptrV at CH
          have H8 := Lib.hid (And.intro hst8 (And.intro hW8 (And.intro BT8 BS8)))
          clear hst8 hO8 hW8 BT8 BS8
          go_wp2_with fail
          refine CH.mono ?_
          clear CH
          rintro e w9 ⟨rfl, hb9⟩
          have BT9 := H8.out.2.2.1.ext hb9
          have t0 : w9.cell? ⟨w1.heap.size, 0, none⟩ = some (.int .i64 1) := BT9.cell 0
          have t1 : w9.cell? ⟨w1.heap.size, 1, none⟩ = some (.int .i64 1) := BT9.cell 1
          have t2 : w9.cell? ⟨w1.heap.size, 2, none⟩ = some (.int .i64 1) := BT9.cell 2
          have CD := sdecided_any g s3 onceT _ w9 (H8.out.1.ext hb9) (by have := H7.out.2.2.1.self; omega)
          rw [show decide (0 < (getA onceT s3.decided).getD 0) = true from by rw [H7.out.2.1]; rfl] at CD
          unfold ptrV at CD
          have H9 := Lib.hid (And.intro (H8.out.1.ext hb9) (And.intro (H8.out.2.1.ext hb9) (H8.out.2.2.2.ext hb9)))
          clear BT9 hb9
          go_wp2_with fail
          refine CD.mono ?_
          clear CD t0 t1 t2
          rintro e w10 ⟨rfl, hb10⟩
          have H10 := Lib.hid (And.intro (H9.out.1.ext hb10) (And.intro (H9.out.2.1.ext hb10) (H9.out.2.2.ext hb10)))
          clear hb10
          go_wp2_with fail
          go_loopw [16, 17] (fun nv iv wr => ∃ i : Nat, i ≤ b.puts.length ∧ iv = .int .i64 i ∧ nv = .int .i64 (sumD (b.puts.take i)) ∧ wr = w10) (fun _ iv _ => b.puts.length - (intOf iv).toNat)
          case atStart => exact ⟨0, Nat.zero_le _, rfl, by simp [sumD], rfl⟩
          case round =>
            obtain ⟨j, hjn, rfl, rfl, hwr⟩ := hrel
            subst hwr
            have x1 : wr.cell? ⟨w.heap.size, 1, none⟩ = some (.slice A b.puts.length c) := H10.out.2.1.x.cell 1
            have hs1 := sumD_tk b.puts j
            by_cases hlt : j < b.puts.length
            · have hlt' : (j : Int) < b.puts.length := by omega
              have hts := sumD_take hlt
              have hs2 := sumD_tk b.puts (j + 1)
              have hlj := List.getElem?_eq_getElem hlt
              obtain ⟨bb, ob, cs, rfl, _, _, hrep, hcs⟩ := H10.out.2.1.r.at_ hlj
              generalize b.puts[j] = p at *
              obtain ⟨Ad, cd, rfl, _, _, _, _, _⟩ := put_rep.1 hrep
              have c2 := hcs 2 _ rfl
              simp only [PutR_size] at c2
              have HTS := Lib.hid hts
              have hn0 : 0 ≤ ((sumD (b.puts.take j) : Nat) : Int) := Int.natCast_nonneg _
              have hn1 : ((sumD (b.puts.take j) : Nat) : Int) ≤ 5000 := by omega
              have hn2 : 0 ≤ ((p.data.length : Nat) : Int) := Int.natCast_nonneg _
              have hn3 : ((p.data.length : Nat) : Int) ≤ 5000 := by omega
              clear hts hs1 hs2 hlj hrep hcs
              generalize sumD (b.puts.take j) = n0 at *
              go_wp2_with fail
              go_round
              case rel => exact ⟨j + 1, by omega, by go_num, by rw [HTS.out]; go_num, trivial⟩
              case measure => simp [intOf]; omega
            · have hjn2 : j = b.puts.length := by omega
              subst hjn2
              have CL3 := slog_any g s3 _ wr H10.out.1 (by have := H7.out.2.2.1.self; omega) (by have := H7.out.2.2.1.log; omega)
              unfold GotOwn ptrV at CL3
              rw [List.take_length]
              have hlen : (s3.log.length : Int) = s2.log.length + sumD b.puts := by have h1 := H7.out.2.2.2.1; have h2 := H7.out.2.2.2.2.1; rw [h1, List.length_append, h2]; simp
              have hq0 : 0 ≤ ((sumD b.puts : Nat) : Int) := Int.natCast_nonneg _
              have hq1 : ((sumD b.puts : Nat) : Int) ≤ 5000 := by omega
              have HWR := Lib.hid H10.out.2.1.below
              clear hs1
              go_wp2_with fail
              refine CL3.mono ?_
              clear CL3 x1
              rintro e w11 ⟨⟨v11, rfl, hv11⟩, hb11⟩
              obtain ⟨A11, c11, rfl, _⟩ := hv11.form
              have hrow : EventR.Row w11 (fun _ => True) A11 s3.log := hv11.row' event_plain (fun _ _ => trivial)
              have H11 := Lib.hid (And.intro hrow (And.intro (H10.out.2.1.ext hb11) (H10.out.2.2.ext hb11)))
              clear hrow hv11 hb11
              go_wp2_with fail
              go_loopw [19] (fun iv wr => ∃ i : Nat, s2.log.length ≤ i ∧ i ≤ s3.log.length ∧ iv = .int .i64 i ∧ Below w11.heap.size w11 wr) (fun iv _ => s3.log.length - (intOf iv).toNat)
              case atStart => exact ⟨s2.log.length, Nat.le_refl _, by omega, rfl, Below.refl _ _⟩
              case round =>
                obtain ⟨m, hm0, hm1, rfl, hbl⟩ := hrel
                have HBL := Lib.hid hbl
                by_cases hlt : m < s3.log.length
                · first
                  | exact absurd hlt (by omega)
                  | (have hlt' : (m : Int) < s3.log.length := by omega
                     have hlm := List.getElem?_eq_getElem hlt
                     have hst : (s3.log[m]).stamp = wholeAt true := by
                       refine H7.out.2.2.2.2.2 _ ?_
                       have h1 := H7.out.2.2.2.1
                       have h2 : (s2.log ++ E)[m]? = some s3.log[m] := by rw [← h1]; exact hlm
                       rw [List.getElem?_append_right hm0] at h2
                       exact List.mem_of_getElem? h2
                     obtain ⟨bb, ob, cs, rfl, _, _, hrep, hcs⟩ := (H11.out.1.ext hbl).at_ hlm
                     generalize s3.log[m] = ev at *
                     obtain ⟨rfl, _⟩ := event_rep.1 hrep
                     have c3 : wr.cell? ⟨bb, ob + m * 7 + 3, none⟩ = some (.int .i64 7) := by have := hcs 3 _ rfl; rw [hst] at this; exact this
                     have c4 : wr.cell? ⟨bb, ob + m * 7 + 4, none⟩ = some (.int .i64 0) := by have := hcs 4 _ rfl; rw [hst] at this; exact this
                     have c5 : wr.cell? ⟨bb, ob + m * 7 + 5, none⟩ = some (.int .i64 1) := by have := hcs 5 _ rfl; rw [hst] at this; exact this
                     have BS := H11.out.2.2.ext hbl
                     have u0 : wr.cell? ⟨w6.heap.size, 0, none⟩ = some (.int .i64 7) := BS.cell 0
                     have u1 : wr.cell? ⟨w6.heap.size, 1, none⟩ = some (.int .i64 0) := BS.cell 1
                     have u2 : wr.cell? ⟨w6.heap.size, 2, none⟩ = some (.int .i64 1) := BS.cell 2
                     clear hlm hst hrep hcs BS hbl
                     go_wp2_with fail
                     go_quiet (fail)
                     go_wp2_with fail
                     go_round
                     case rel => exact ⟨m + 1, by omega, by omega, by go_num, HBL.out.drewN _⟩
                     case measure => simp [intOf]; omega)
                · have hml : m = s3.log.length := by omega
                  have HW12 := Lib.hid (H11.out.2.1.ext hbl).below
                  clear hbl
                  go_wp2_with fail
                  refine (CA.out wr HW12.out).mono ?_
                  rintro e w12 ⟨rfl, hb12⟩
                  go_wp2_with fail
                  go_ret
                  exact ⟨rfl, HW12.out.tr hb12⟩
  · have hz' : ((applyS awS (wholeP b)).2 != 0) = true := bne_iff_ne.2 hz
    have HN := Lib.hid (whole_no HNW.out hz)
    have HI1 := Lib.hid (apply_inv (r := wholeP b) H2.out.2.2 (by omega))
    clear hz
    generalize (applyS awS (wholeP b)).2 = code at C hz'
    go_wp2_with fail
    refine C.mono ?_
    clear C x0 x1 t0 t1 t2
    rintro e w3 ⟨rfl, hst3, hO3⟩
    have H3 := Lib.hid (And.intro hst3 (H2.out.2.1.only hO3 (by omega)))
    have CL := slog_any g _ _ w3 hst3 (by have := HI1.out.self; omega) (by rw [HN.out.1]; decide)
    rw [HN.out.1] at CL
    unfold GotOwn ptrV at CL
    clear hst3 hO3
    go_wp2_with fail
    refine CL.mono ?_
    clear CL
    rintro e w4 ⟨⟨v4, rfl, hv4⟩, hb4⟩
    obtain ⟨A4, c4, he4, _⟩ := hv4.form
    rw [List.length_nil] at he4
    subst he4
    have CH := heldNo_any g _ _ w4 (H3.out.1.ext hb4) (by have := HI1.out.self; omega) HN.out.2
    unfold ptrV at CH
    have HW4 := Lib.hid (H3.out.2.ext hb4)
    clear hv4 hb4
    go_wp2_with fail
    refine CH.mono ?_
    clear CH
    rintro e w5 ⟨rfl, hb5⟩
    have HW5 := Lib.hid (HW4.out.ext hb5).below
    clear hb5
    go_wp2_with fail
    refine (CA.out w5 HW5.out).mono ?_
    rintro e w6 ⟨rfl, hb6⟩
    go_wp2_with fail
    go_ret
    exact ⟨rfl, HW5.out.tr hb6⟩
set_option maxRecDepth 20000 in
set_option maxHeartbeats 12800000 in
theorem whole_false (b o : Batch) (A A' : Option Addr) (c c' : Nat) (w : World) (hb : BatIn w b A c) (ho : BatIn w o A' c') (hT : Tabs w) (h2 : 2 ≤ w.heap.size) :
    Calls Tryz.prog 9 #[.agg #[.string b.key, .slice A b.puts.length c], .agg #[.string o.key, .slice A' o.puts.length c'], .bool false] w fun e w' => e = .returned (.bool true) ∧ Below w.heap.size w w' := by
  have CA := Lib.hid (fun W (hW : Below w.heap.size w W) => awake_any W (hT.below hW) (by have := hW.size; omega))
  have HWB := Lib.hid (WhB.start hb ho hT)
  have HK := Lib.hid (And.intro (And.intro hb.key hb.cap) (And.intro ho.key ho.cap))
  clear hb ho hT
  go_enter Tryz.func9, Tryz.ntmps9
  go_upto_region 1 with fail
  refine forget (M := fun W => Code.wp _ _ _ _ W) (fun W => WhB w b o A A' c c' W) HWB.out ?_
  clear HWB
  rintro w0 hW
  have HW := Lib.hid hW
  have x0 : w0.cell? ⟨w.heap.size, 0, none⟩ = some (.string b.key) := hW.x.cell 0
  have x1 : w0.cell? ⟨w.heap.size, 1, none⟩ = some (.slice A b.puts.length c) := hW.x.cell 1
  have S1 := sizeB_any b A c 5000 _ w0 hW.r HK.out.1.1 ⟨by omega, by omega⟩
  clear hW
  go_wp2_with fail
  refine S1.mono ?_
  clear S1 x0 x1
  rintro e wa ⟨⟨k1, rfl, hk0, hk1, hk⟩, hba⟩
  have hWa := HW.out.ext hba
  have HWA := Lib.hid hWa
  by_cases hle : (5000 : Int) < k1
  · clear hk hWa hba
    go_wp2_with fail
    refine (CA.out wa HWA.out.below).mono ?_
    rintro e w1 ⟨rfl, hb1⟩
    go_wp2_with fail
    go_ret
    exact ⟨rfl, HWA.out.below.tr hb1⟩
  have HSB := Lib.hid (show sizeB b ≤ 5000 from by have := hk (by omega); omega)
  have y0 : wa.cell? ⟨w.heap.size + 1, 0, none⟩ = some (.string o.key) := hWa.y.cell 0
  have y1 : wa.cell? ⟨w.heap.size + 1, 1, none⟩ = some (.slice A' o.puts.length c') := hWa.y.cell 1
  have S2 := sizeB_any o A' c' 5000 _ wa hWa.q HK.out.2.1 ⟨by omega, by omega⟩
  clear hk hWa hba
  go_wp2_with fail
  refine S2.mono ?_
  clear S2 y0 y1
  rintro e wb ⟨⟨k2, rfl, hk20, hk21, hk⟩, hbb⟩
  have HWB := Lib.hid (HWA.out.ext hbb)
  clear hbb
  by_cases hle2 : (5000 : Int) < k2
  · clear hk
    go_wp2_with fail
    refine (CA.out wb HWB.out.below).mono ?_
    rintro e w1 ⟨rfl, hb1⟩
    go_wp2_with fail
    go_ret
    exact ⟨rfl, HWB.out.below.tr hb1⟩
  have HSO := Lib.hid (show sizeB o ≤ 5000 from by have := hk (by omega); omega)
  have hbn := (sizeB_bd HSB.out).1
  have hon := (sizeB_bd HSO.out).1
  have C1 := newState_any 1 1 wb (i64_small 1 (by omega)) (i64_small 1 (by omega))
  unfold GotState at C1
  have HNW := Lib.hid (show newS 1 1 = some awS from by kernel_rfl)
  rw [HNW.out] at C1
  clear hk HWA HW
  have hz0 := HWB.out.size
  go_wp2_with fail
  refine C1.mono ?_
  clear C1
  rintro e w1 ⟨⟨g, rfl, hg, hst, _⟩, hb1⟩
  have hz1 : wb.heap.size ≤ w1.heap.size := hb1.size
  have hgl := hst.lt
  have HST := Lib.hid (And.intro hst hb1)
  clear hst hb1
  unfold ptrV
  go_upto_region 7 with fail
  have hb2 := (Below.refl w1.heap.size w1).al (.cells #[.int .i64 1, .int .i64 1, .int .i64 1] 34)
  have BT := Blk.new w1 34 [.int .i64 1, .int .i64 1, .int .i64 1]
  have hst2 := (HST.out.1.ext hb2).mono (Q := fun k => w.heap.size + 2 ≤ k ∧ k ≠ g) (fun k hk => ⟨by have := hk.1; omega, hk.2⟩)
  have hW2 := (HWB.out.ext HST.out.2).ext hb2
  have hz2 : (w1.alloc (.cells #[.int .i64 1, .int .i64 1, .int .i64 1] 34)).heap.size = w1.heap.size + 1 := by simp
  generalize hw2 : (w1.alloc (.cells #[.int .i64 1, .int .i64 1, .int .i64 1] 34)) = w2 at *
  clear hw2
  have hI0 := inv_new HNW.out
  have C := applyK_4 g awS (wholeP b) none A none 0 c 0 _ (fun k => k < w.heap.size) w2 hst2 (fun h => h.2 rfl) (hI0.fit (by omega)) (wholeP_at HK.out.1.1 HK.out.1.2 hW2.r) (fun h => by omega) (wholeP_fair HSB.out) hW2.tabs (by omega) rfl
  unfold StOut ptrV at C
  have x0 : w2.cell? ⟨w.heap.size, 0, none⟩ = some (.string b.key) := hW2.x.cell 0
  have x1 : w2.cell? ⟨w.heap.size, 1, none⟩ = some (.slice A b.puts.length c) := hW2.x.cell 1
  have t0 : w2.cell? ⟨w1.heap.size, 0, none⟩ = some (.int .i64 1) := BT.cell 0
  have t1 : w2.cell? ⟨w1.heap.size, 1, none⟩ = some (.int .i64 1) := BT.cell 1
  have t2 : w2.cell? ⟨w1.heap.size, 2, none⟩ = some (.int .i64 1) := BT.cell 2
  have H2 := Lib.hid (And.intro BT (And.intro hW2 hI0))
  clear BT hW2 hI0 hst2 hb2 HWB HST
  by_cases hz : (applyS awS (wholeP b)).2 = 0
  · obtain ⟨hI1, hck, f, hheld, hdec⟩ := whole_held HNW.out hz
    rw [hz] at C
    generalize (applyS awS (wholeP b)).1 = s1 at *
    have H1 := Lib.hid (And.intro hI1 (And.intro hheld hdec))
    clear hI1 hck hheld hdec hz
    go_wp2_with fail
    refine C.mono ?_
    clear C x0 x1 t0 t1 t2
    rintro e w3 ⟨rfl, hst3, hO3⟩
    have hz3 := hO3.size
    have H3 := Lib.hid (And.intro (hst3.mono (Q := fun k => w.heap.size + 2 ≤ k ∧ k ≠ g) (fun k hk => by
      rcases hk with h | h
      · exact h
      · exact ⟨by omega, by omega⟩)) (And.intro (H2.out.2.1.only hO3 (by omega)) (H2.out.1.only hO3 (fun e => by have e' : w1.heap.size = g := e; omega))))
    clear hst3 hO3
    go_wp2_with fail
    go_loopw [10, 11] (fun sv iv wr => ∃ (i : Nat) (sh : Bool), i ≤ b.puts.length ∧ iv = .int .i64 i ∧ sv = .bool sh ∧ (sh = true → SharedB b o) ∧ Below w3.heap.size w3 wr) (fun _ iv _ => b.puts.length - (intOf iv).toNat)
    case atStart => exact ⟨0, false, Nat.zero_le _, rfl, rfl, fun h => (by cases h), Below.refl _ _⟩
    case round =>
      obtain ⟨i, sh, hin, rfl, rfl, hsh, hbl⟩ := hrel
      have HSH := Lib.hid (And.intro hsh hbl)
      have x1 : wr.cell? ⟨w.heap.size, 1, none⟩ = some (.slice A b.puts.length c) := (H3.out.2.1.x.ext hbl).cell 1
      clear hsh hbl
      by_cases hlt : i < b.puts.length
      · have hlt' : (i : Int) < b.puts.length := by omega
        go_wp2_with fail
        clear x1
        go_loopw [10, 12] (fun sv kv wr => ∃ (k : Nat) (sh : Bool), k ≤ o.puts.length ∧ kv = .int .i64 k ∧ sv = .bool sh ∧ (sh = true → SharedB b o) ∧ Below w3.heap.size w3 wr) (fun _ kv _ => o.puts.length - (intOf kv).toNat)
        case atStart => exact ⟨0, sh, Nat.zero_le _, rfl, rfl, HSH.out.1, HSH.out.2⟩
        case round =>
          obtain ⟨k, sh2, hkn, rfl, rfl, hsh, hbl⟩ := hrel
          have HS2 := Lib.hid (And.intro hsh hbl)
          have hW4 := H3.out.2.1.ext hbl
          have x1 : wr.cell? ⟨w.heap.size, 1, none⟩ = some (.slice A b.puts.length c) := hW4.x.cell 1
          have y1 : wr.cell? ⟨w.heap.size + 1, 1, none⟩ = some (.slice A' o.puts.length c') := hW4.y.cell 1
          clear hsh hbl
          by_cases hlt2 : k < o.puts.length
          · have hlt2' : (k : Int) < o.puts.length := by omega
            cases sh2
            · have hli := List.getElem?_eq_getElem hlt
              have hlk := List.getElem?_eq_getElem hlt2
              have hmi := List.getElem_mem hlt
              have hmk := List.getElem_mem hlt2
              obtain ⟨bb, ob, cs, rfl, _, _, hrep, hcs⟩ := hW4.r.at_ hli
              obtain ⟨bb', ob', cs', rfl, _, _, hrep', hcs'⟩ := hW4.q.at_ hlk
              generalize b.puts[i] = p at *
              generalize o.puts[k] = q at *
              obtain ⟨Ad, cd, rfl, _, _, _, _, _⟩ := put_rep.1 hrep
              obtain ⟨Ad', cd', rfl, _, _, _, _, _⟩ := put_rep.1 hrep'
              have d0 := hcs' 0 _ rfl
              have c0 := hcs 0 _ rfl
              simp only [PutR_size, Nat.add_zero] at c0 d0
              have HM := Lib.hid (And.intro hmi hmk)
              clear hli hlk hmi hmk hrep hrep' hcs hcs' hW4
              by_cases heq : p.stream = q.stream
              · have HEQ := Lib.hid heq
                rw [heq] at c0
                clear heq
                go_wp2_with fail
                go_quiet (fail)
                go_wp2_with fail
                go_round
                case rel => exact ⟨k + 1, true, by omega, by go_num, rfl, fun _ => ⟨p, HM.out.1, q, HM.out.2, HEQ.out⟩, HS2.out.2.drewN _⟩
                case measure => simp [intOf]; omega
              · have hne : (p.stream.toList == q.stream.toList) = false := by
                  rw [beq_eq_false_iff_ne]; intro h; exact heq (str_ext h)
                clear heq
                go_wp2_with fail
                go_quiet (fail)
                go_wp2_with fail
                go_round
                case rel => exact ⟨k + 1, false, by omega, by go_num, rfl, fun h => (by cases h), HS2.out.2.drewN _⟩
                case measure => simp [intOf]; omega
            · clear hW4
              go_wp2_with fail
              go_quiet (fail)
              go_wp2_with fail
              go_round
              case rel => exact ⟨k + 1, true, by omega, by go_num, rfl, fun _ => (by first | exact HS2.out.1 rfl | exact HS2.out.1 trivial), HS2.out.2.drewN _⟩
              case measure => simp [intOf]; omega
          · have hkn2 : k = o.puts.length := by omega
            clear hW4
            go_wp2_with fail
            go_round
            case rel => exact ⟨i + 1, sh2, by omega, by go_num, rfl, HS2.out.1, HS2.out.2⟩
            case measure => simp [intOf]; omega
      · have hin2 : i = b.puts.length := by omega
        have hsz := (sizeB_bd HSB.out).2.2
        have hW4 := H3.out.2.1.ext HSH.out.2
        have y0 : wr.cell? ⟨w.heap.size + 1, 0, none⟩ = some (.string o.key) := hW4.y.cell 0
        have y1 : wr.cell? ⟨w.heap.size + 1, 1, none⟩ = some (.slice A' o.puts.length c') := hW4.y.cell 1
        have hwz := HSH.out.2.size
        have hc1 := whole_commit (other := o) H1.out.1 (by omega)
        have C3 := applyK_3 g s1 (wholeC o) none A' none 0 c' 0 _ (fun k => k < w.heap.size) wr (H3.out.1.ext HSH.out.2) (fun h => h.2 rfl) (H1.out.1.fit (by omega)) (wholeC_at HK.out.2.1 HK.out.2.2 hW4.q) (fun h => by omega) (wholeC_fair HSO.out) hW4.tabs (by omega) rfl
        unfold StOut ptrV at C3
        have hno : sh = true → ((applyS s1 (wholeC o)).2 == 0) = false := fun hs => by
          rw [beq_eq_false_iff_ne]; intro e
          obtain ⟨p, hp, q, hq, hpq⟩ := HSH.out.1 hs
          exact whole_shared H1.out.2.1 e p hp q hq hpq
        have hBT4 := H3.out.2.2.ext HSH.out.2
        generalize applyS s1 (wholeC o) = r2 at hc1 C3 hno
        obtain ⟨s2, code2⟩ := r2
        dsimp only at hc1 C3 hno
        have H4 := Lib.hid (And.intro hc1 (And.intro hW4 hBT4))
        have HNO := Lib.hid hno
        clear hW4 hc1 hno hBT4
        go_wp2_with fail
        refine C3.mono ?_
        clear C3 x1 y0 y1
        rintro e w5 ⟨rfl, hst5, hO5⟩
        have hz5 := hO5.size
        have H5 := Lib.hid (And.intro (hst5.mono (Q := fun k => w.heap.size + 2 ≤ k ∧ k ≠ g) (fun k hk => by
          rcases hk with h | h
          · exact h
          · exact ⟨by omega, by omega⟩)) (And.intro (H4.out.2.1.only hO5 (by omega)) (H4.out.2.2.only hO5 (fun e => by have e' : w1.heap.size = g := e; omega))))
        have HI2 := Lib.hid (show Inv s2 10000 from H4.out.1.1.mono (by have := (sizeB_bd HSO.out).2.2; omega))
        clear hst5 hO5
        have CL2 := slog_any g s2 _ w5 H5.out.1 (by have := HI2.out.self; omega) (by have := HI2.out.log; omega)
        have HLL := Lib.hid (show s2.log.length ≤ 10000 from by have := HI2.out.log; omega)
        unfold GotOwn ptrV at CL2
        cases sh
        case' true => have hno := HNO.out rfl
        all_goals
          go_wp2_with fail
          refine CL2.mono ?_
          clear CL2
          rintro e w6 ⟨⟨v6, rfl, hv6⟩, hb6⟩
          obtain ⟨A6, c6, rfl, _⟩ := hv6.form
          have hz6 := hb6.size
          have H6 := Lib.hid (And.intro (H5.out.1.ext hb6) (And.intro (H5.out.2.1.ext hb6) (H5.out.2.2.ext hb6)))
          have hl0 : 0 ≤ (s2.log.length : Int) := Int.natCast_nonneg _
          have hl1 : (s2.log.length : Int) ≤ 10000 := by have := HLL.out; omega
          clear hv6 hb6
          go_upto_region 24 with fail
          have hb7 := (Below.refl w6.heap.size w6).al (.cells #[.int .i64 0, .int .i64 0, .int .i64 0] 37)
          have BS := Blk.new w6 37 [.int .i64 0, .int .i64 0, .int .i64 0]
          have hz7 : (w6.alloc (.cells #[.int .i64 0, .int .i64 0, .int .i64 0] 37)).heap.size = w6.heap.size + 1 := by simp
          generalize hw7 : (w6.alloc (.cells #[.int .i64 0, .int .i64 0, .int .i64 0] 37)) = w7 at *
          clear hw7
          have hst7 := H6.out.1.ext hb7
          have hW7 := H6.out.2.1.ext hb7
          have BT7 := H6.out.2.2.ext hb7
          have C5 := applyK_5 g s2 (wholeD false) none none none 0 0 0 _ (fun _ => False) w7 hst7 (fun h => h.2 rfl) (HI2.out.fit (by omega)) (wholeD_at _) (fun h => h) (wholeD_fair _) hW7.tabs (by omega) rfl
          unfold StOut ptrV at C5
          obtain ⟨hd1, hd2, hd3, E, hE1, hE2, hE3⟩ := whole_decide (yes := false) (H4.out.1.2.1.trans H1.out.2.1)
          have hI3 := apply_inv (r := wholeD false) HI2.out (by omega)
          rw [hd1] at C5
          generalize (applyS s2 (wholeD false)).1 = s3 at *
          have H7 := Lib.hid (And.intro hd2 (And.intro hd3 (And.intro (hI3.mono (M := 20000) (by show 10000 + (0 + 0) ≤ _; omega)) (And.intro hE1 (And.intro hE2 hE3)))))
          have t0 : w7.cell? ⟨w1.heap.size, 0, none⟩ = some (.int .i64 1) := BT7.cell 0
          have t1 : w7.cell? ⟨w1.heap.size, 1, none⟩ = some (.int .i64 1) := BT7.cell 1
          have t2 : w7.cell? ⟨w1.heap.size, 2, none⟩ = some (.int .i64 1) := BT7.cell 2
          have u0 : w7.cell? ⟨w6.heap.size, 0, none⟩ = some (.int .i64 0) := BS.cell 0
          have u1 : w7.cell? ⟨w6.heap.size, 1, none⟩ = some (.int .i64 0) := BS.cell 1
          have u2 : w7.cell? ⟨w6.heap.size, 2, none⟩ = some (.int .i64 0) := BS.cell 2
          have HB7 := Lib.hid (And.intro hW7 (And.intro BT7 BS))
          clear hd1 hd2 hd3 hI3 hE1 hE2 hE3 hst7 hW7 BT7 BS hb7
          go_wp2_with fail
          refine C5.mono ?_
          clear C5 t0 t1 t2 u0 u1 u2
          rintro e w8 ⟨rfl, hst8, hO8⟩
          have hz8 := hO8.size
          have hW8 := HB7.out.1.only hO8 (by omega)
          have BT8 := HB7.out.2.1.only hO8 (fun e => by have e' : w1.heap.size = g := e; omega)
          have BS8 := HB7.out.2.2.only hO8 (fun e => by have e' : w6.heap.size = g := e; omega)
          have CH := heldNo_any g s3 _ w8 hst8 (by have := H7.out.2.2.1.self; omega) H7.out.1
          unfold ptrV at CH
          have H8 := Lib.hid (And.intro hst8 (And.intro hW8 (And.intro BT8 BS8)))
          clear hst8 hO8 hW8 BT8 BS8
          go_wp2_with fail
          refine CH.mono ?_
          clear CH
          rintro e w9 ⟨rfl, hb9⟩
          have BT9 := H8.out.2.2.1.ext hb9
          have t0 : w9.cell? ⟨w1.heap.size, 0, none⟩ = some (.int .i64 1) := BT9.cell 0
          have t1 : w9.cell? ⟨w1.heap.size, 1, none⟩ = some (.int .i64 1) := BT9.cell 1
          have t2 : w9.cell? ⟨w1.heap.size, 2, none⟩ = some (.int .i64 1) := BT9.cell 2
          have CD := sdecided_any g s3 onceT _ w9 (H8.out.1.ext hb9) (by have := H7.out.2.2.1.self; omega)
          rw [show decide (0 < (getA onceT s3.decided).getD 0) = true from by rw [H7.out.2.1]; rfl] at CD
          unfold ptrV at CD
          have H9 := Lib.hid (And.intro (H8.out.1.ext hb9) (And.intro (H8.out.2.1.ext hb9) (H8.out.2.2.2.ext hb9)))
          clear BT9 hb9
          go_wp2_with fail
          refine CD.mono ?_
          clear CD t0 t1 t2
          rintro e w10 ⟨rfl, hb10⟩
          have H10 := Lib.hid (And.intro (H9.out.1.ext hb10) (And.intro (H9.out.2.1.ext hb10) (H9.out.2.2.ext hb10)))
          clear hb10
          go_wp2_with fail
          go_loopw [16, 17] (fun nv iv wr => ∃ i : Nat, i ≤ b.puts.length ∧ iv = .int .i64 i ∧ nv = .int .i64 (sumD (b.puts.take i)) ∧ wr = w10) (fun _ iv _ => b.puts.length - (intOf iv).toNat)
          case atStart => exact ⟨0, Nat.zero_le _, rfl, by simp [sumD], rfl⟩
          case round =>
            obtain ⟨j, hjn, rfl, rfl, hwr⟩ := hrel
            subst hwr
            have x1 : wr.cell? ⟨w.heap.size, 1, none⟩ = some (.slice A b.puts.length c) := H10.out.2.1.x.cell 1
            have hs1 := sumD_tk b.puts j
            by_cases hlt : j < b.puts.length
            · have hlt' : (j : Int) < b.puts.length := by omega
              have hts := sumD_take hlt
              have hs2 := sumD_tk b.puts (j + 1)
              have hlj := List.getElem?_eq_getElem hlt
              obtain ⟨bb, ob, cs, rfl, _, _, hrep, hcs⟩ := H10.out.2.1.r.at_ hlj
              generalize b.puts[j] = p at *
              obtain ⟨Ad, cd, rfl, _, _, _, _, _⟩ := put_rep.1 hrep
              have c2 := hcs 2 _ rfl
              simp only [PutR_size] at c2
              have HTS := Lib.hid hts
              have hn0 : 0 ≤ ((sumD (b.puts.take j) : Nat) : Int) := Int.natCast_nonneg _
              have hn1 : ((sumD (b.puts.take j) : Nat) : Int) ≤ 5000 := by omega
              have hn2 : 0 ≤ ((p.data.length : Nat) : Int) := Int.natCast_nonneg _
              have hn3 : ((p.data.length : Nat) : Int) ≤ 5000 := by omega
              clear hts hs1 hs2 hlj hrep hcs
              generalize sumD (b.puts.take j) = n0 at *
              go_wp2_with fail
              go_round
              case rel => exact ⟨j + 1, by omega, by go_num, by rw [HTS.out]; go_num, trivial⟩
              case measure => simp [intOf]; omega
            · have hjn2 : j = b.puts.length := by omega
              subst hjn2
              have CL3 := slog_any g s3 _ wr H10.out.1 (by have := H7.out.2.2.1.self; omega) (by have := H7.out.2.2.1.log; omega)
              unfold GotOwn ptrV at CL3
              rw [List.take_length]
              have hlen : (s3.log.length : Int) = s2.log.length + 0 := by have h1 := H7.out.2.2.2.1; have h2 := H7.out.2.2.2.2.1; rw [h1, List.length_append, h2]; simp
              have hq0 : 0 ≤ ((sumD b.puts : Nat) : Int) := Int.natCast_nonneg _
              have hq1 : ((sumD b.puts : Nat) : Int) ≤ 5000 := by omega
              have HWR := Lib.hid H10.out.2.1.below
              clear hs1
              go_wp2_with fail
              refine CL3.mono ?_
              clear CL3 x1
              rintro e w11 ⟨⟨v11, rfl, hv11⟩, hb11⟩
              obtain ⟨A11, c11, rfl, _⟩ := hv11.form
              have hrow : EventR.Row w11 (fun _ => True) A11 s3.log := hv11.row' event_plain (fun _ _ => trivial)
              have H11 := Lib.hid (And.intro hrow (And.intro (H10.out.2.1.ext hb11) (H10.out.2.2.ext hb11)))
              clear hrow hv11 hb11
              go_wp2_with fail
              go_loopw [19] (fun iv wr => ∃ i : Nat, s2.log.length ≤ i ∧ i ≤ s3.log.length ∧ iv = .int .i64 i ∧ Below w11.heap.size w11 wr) (fun iv _ => s3.log.length - (intOf iv).toNat)
              case atStart => exact ⟨s2.log.length, Nat.le_refl _, by omega, rfl, Below.refl _ _⟩
              case round =>
                obtain ⟨m, hm0, hm1, rfl, hbl⟩ := hrel
                have HBL := Lib.hid hbl
                by_cases hlt : m < s3.log.length
                · first
                  | exact absurd hlt (by omega)
                  | (have hlt' : (m : Int) < s3.log.length := by omega
                     have hlm := List.getElem?_eq_getElem hlt
                     have hst : (s3.log[m]).stamp = wholeAt false := by
                       refine H7.out.2.2.2.2.2 _ ?_
                       have h1 := H7.out.2.2.2.1
                       have h2 : (s2.log ++ E)[m]? = some s3.log[m] := by rw [← h1]; exact hlm
                       rw [List.getElem?_append_right hm0] at h2
                       exact List.mem_of_getElem? h2
                     obtain ⟨bb, ob, cs, rfl, _, _, hrep, hcs⟩ := (H11.out.1.ext hbl).at_ hlm
                     generalize s3.log[m] = ev at *
                     obtain ⟨rfl, _⟩ := event_rep.1 hrep
                     have c3 : wr.cell? ⟨bb, ob + m * 7 + 3, none⟩ = some (.int .i64 0) := by have := hcs 3 _ rfl; rw [hst] at this; exact this
                     have c4 : wr.cell? ⟨bb, ob + m * 7 + 4, none⟩ = some (.int .i64 0) := by have := hcs 4 _ rfl; rw [hst] at this; exact this
                     have c5 : wr.cell? ⟨bb, ob + m * 7 + 5, none⟩ = some (.int .i64 0) := by have := hcs 5 _ rfl; rw [hst] at this; exact this
                     have BS := H11.out.2.2.ext hbl
                     have u0 : wr.cell? ⟨w6.heap.size, 0, none⟩ = some (.int .i64 0) := BS.cell 0
                     have u1 : wr.cell? ⟨w6.heap.size, 1, none⟩ = some (.int .i64 0) := BS.cell 1
                     have u2 : wr.cell? ⟨w6.heap.size, 2, none⟩ = some (.int .i64 0) := BS.cell 2
                     clear hlm hst hrep hcs BS hbl
                     go_wp2_with fail
                     go_quiet (fail)
                     go_wp2_with fail
                     go_round
                     case rel => exact ⟨m + 1, by omega, by omega, by go_num, HBL.out.drewN _⟩
                     case measure => simp [intOf]; omega)
                · have hml : m = s3.log.length := by omega
                  have HW12 := Lib.hid (H11.out.2.1.ext hbl).below
                  clear hbl
                  go_wp2_with fail
                  refine (CA.out wr HW12.out).mono ?_
                  rintro e w12 ⟨rfl, hb12⟩
                  go_wp2_with fail
                  go_ret
                  exact ⟨rfl, HW12.out.tr hb12⟩
  · have hz' : ((applyS awS (wholeP b)).2 != 0) = true := bne_iff_ne.2 hz
    have HN := Lib.hid (whole_no HNW.out hz)
    have HI1 := Lib.hid (apply_inv (r := wholeP b) H2.out.2.2 (by omega))
    clear hz
    generalize (applyS awS (wholeP b)).2 = code at C hz'
    go_wp2_with fail
    refine C.mono ?_
    clear C x0 x1 t0 t1 t2
    rintro e w3 ⟨rfl, hst3, hO3⟩
    have H3 := Lib.hid (And.intro hst3 (H2.out.2.1.only hO3 (by omega)))
    have CL := slog_any g _ _ w3 hst3 (by have := HI1.out.self; omega) (by rw [HN.out.1]; decide)
    rw [HN.out.1] at CL
    unfold GotOwn ptrV at CL
    clear hst3 hO3
    go_wp2_with fail
    refine CL.mono ?_
    clear CL
    rintro e w4 ⟨⟨v4, rfl, hv4⟩, hb4⟩
    obtain ⟨A4, c4, he4, _⟩ := hv4.form
    rw [List.length_nil] at he4
    subst he4
    have CH := heldNo_any g _ _ w4 (H3.out.1.ext hb4) (by have := HI1.out.self; omega) HN.out.2
    unfold ptrV at CH
    have HW4 := Lib.hid (H3.out.2.ext hb4)
    clear hv4 hb4
    go_wp2_with fail
    refine CH.mono ?_
    clear CH
    rintro e w5 ⟨rfl, hb5⟩
    have HW5 := Lib.hid (HW4.out.ext hb5).below
    clear hb5
    go_wp2_with fail
    refine (CA.out w5 HW5.out).mono ?_
    rintro e w6 ⟨rfl, hb6⟩
    go_wp2_with fail
    go_ret
    exact ⟨rfl, HW5.out.tr hb6⟩
theorem whole_law (b o : Batch) (yes : Bool) (A A' : Option Addr) (c c' : Nat) (w : World) (hb : BatIn w b A c) (ho : BatIn w o A' c') (hT : Tabs w) (h2 : 2 ≤ w.heap.size) :
    Calls Tryz.prog 9 #[.agg #[.string b.key, .slice A b.puts.length c], .agg #[.string o.key, .slice A' o.puts.length c'], .bool yes] w fun e w' => e = .returned (.bool true) ∧ Below w.heap.size w w' := by
  cases yes
  · exact whole_false b o A A' c c' w hb ho hT h2
  · exact whole_true b o A A' c c' w hb ho hT h2
end Go.Proofs.YtpgocpodhamibaaGreatDoor
namespace Go.Proofs.YtpgocpodhamibaaGreatDoor
set_option maxRecDepth 100000
open Go.RowKit Go.ChangeShapes Go.WideShapes Go.Deep

/-- Whatever reads at type t is a datum of R. -/
def Opens {α : Type} (R : Rep α) (t : TypeId) : Prop := Tryz.prog.cellsOf t = R.size ∧ ∀ (H : Type) (enc : TypeId × Value → H) (w : World) (base : Nat) (sp : Nat → Bool) (held : Bool) (fuel : Nat) (cs : List Value) (x : DataW H × List MemPlace),
  DataW.trod enc Tryz.prog w base sp held fuel t cs = some x → ∃ a, R.rep w (fun g => g < w.heap.size) cs a
/-- One behind the other. -/
def Parts {H : Type} (enc : TypeId × Value → H) (w : World) (base : Nat) (sp : Nat → Bool) (held : Bool) (fuel : Nat) : List TypeId → List Value → Prop
  | [], cs => cs = []
  | t :: ts, cs => (∃ y, DataW.trod enc Tryz.prog w base sp held fuel t (cs.take (Tryz.prog.cellsOf t)) = some y) ∧ Parts enc w base sp held fuel ts (cs.drop (Tryz.prog.cellsOf t))
def OpensF {α : Type} (R : Rep α) (ts : List TypeId) : Prop := ∀ (H : Type) (enc : TypeId × Value → H) (w : World) (base : Nat) (sp : Nat → Bool) (held : Bool) (fuel : Nat) (cs : List Value), Parts enc w base sp held fuel ts cs → ∃ a, R.rep w (fun g => g < w.heap.size) cs a
def offB (P : Program) (n : Nat) : List Field → Nat → Bool
  | [], off => decide (off = n)
  | f :: r, off => decide (f.offset = off) && offB P n r (off + P.cellsOf f.type)

section
variable {α β : Type} {R : Rep α} {S : Rep β}
theorem parts_of {H : Type} {enc : TypeId × Value → H} {w : World} {base : Nat} {sp : Nat → Bool} {held : Bool} {fuel : Nat} {cs : List Value} : ∀ (fs : List Field) (off : Nat), (∀ f ∈ fs, ∃ y, DataW.trod enc Tryz.prog w base sp held fuel f.type ((cs.drop f.offset).take (Tryz.prog.cellsOf f.type)) = some y) → offB Tryz.prog cs.length fs off = true →
    Parts enc w base sp held fuel (fs.map (·.type)) (cs.drop off)
  | [], off, _, ho => by
    simp only [offB, decide_eq_true_eq] at ho
    subst ho
    simp [Parts]
  | f :: r, off, h, ho => by
    simp only [offB, Bool.and_eq_true, decide_eq_true_eq] at ho
    obtain ⟨rfl, ho⟩ := ho
    refine ⟨h f (by simp), ?_⟩
    have := parts_of r _ (fun g hg => h g (by simp [hg])) ho
    rwa [List.drop_drop]
theorem Opens.one {t : TypeId} (h : Opens R t) : OpensF R [t] := fun H enc w base sp held fuel cs hp => by
  obtain ⟨⟨y, hy⟩, hd⟩ := hp
  obtain ⟨a, ha⟩ := h.2 _ _ _ _ _ _ _ _ _ hy
  simp only [Parts] at hd
  rw [List.take_of_length_le (by simpa using hd)] at ha
  exact ⟨a, ha⟩
theorem Opens.more {t : TypeId} {ts : List TypeId} (h : Opens R t) (k : OpensF S ts) : OpensF (R.cat S) (t :: ts) := fun H enc w base sp held fuel cs hp => by
  obtain ⟨⟨y, hy⟩, hd⟩ := hp
  obtain ⟨a, ha⟩ := h.2 _ _ _ _ _ _ _ _ _ hy
  obtain ⟨b, hb⟩ := k _ _ _ _ _ _ _ _ hd
  exact ⟨(a, b), _, _, (List.take_append_drop _ _).symm, ha, hb⟩
theorem OpensF.struct {fs : Array Field} {t : TypeId} (ht : Tryz.prog.underlying t = some (.struct fs)) (hc : Tryz.prog.cellsOf t = R.size) (ho : offB Tryz.prog (Tryz.prog.cellsOf t) fs.toList 0 = true) (h : OpensF R (fs.toList.map (·.type))) : Opens R t := ⟨hc, fun H enc w base sp held fuel cs x hx => by
  obtain ⟨xs, n, _, _, hl, hxl, hf⟩ := DataW.trod_struct ht hx
  have := parts_of (enc := enc) (w := w) (base := base) (sp := sp) (held := held) (fuel := n) (cs := cs) fs.toList 0 (fun f hfm => by
    obtain ⟨i, hi, rfl⟩ := List.getElem_of_mem hfm
    have h1 := hf i fs.toList[i] (by simp at hi; simp [hi])
    rw [h1]
    have : i < xs.length := by rw [hxl]; simpa using hi
    exact ⟨xs[i], List.getElem?_eq_getElem this⟩) (by rw [hl]; exact ho)
  exact h _ _ _ _ _ _ _ _ (by simpa using this)⟩
theorem Opens.via {t : TypeId} {f : β → α} (g : α → β) (hg : ∀ a, f (g a) = a) (h : Opens R t) : Opens (R.via f) t := ⟨h.1, fun H enc w base sp held fuel cs x hx => by
  obtain ⟨a, ha⟩ := h.2 _ _ _ _ _ _ _ _ _ hx
  refine ⟨g a, ?_⟩
  show R.rep _ _ _ (f (g a))
  rw [hg]; exact ha⟩
theorem Opens.sl {t e : TypeId} (ht : Tryz.prog.underlying t = some (.slice e)) (hc : Tryz.prog.cellsOf t = 1) (h : Opens R e) : Opens R.sl t := ⟨hc, fun H enc w base sp held fuel cs x hx => by
  rcases open_slice ht hx with ⟨h0, _⟩ | ⟨a, len, cap, m, n, D, Pl, hcs, hb, hl, hcap, hmm, _, hi⟩
  · exact ⟨[], none, 0, h0, Nat.le_refl _, by simp, Rep.Row.nil_⟩
  · have hlm : len ≤ m := by rw [hmm]; split <;> omega
    rw [h.1] at hi
    have hcap' : cap ≤ 9223372036854775807 := by unfold maxLen at hcap; omega
    by_cases hz : len = 0
    · exact ⟨[], some a, cap, by rw [hcs, hz]; rfl, Nat.zero_le _, hcap', Rep.Row.nil_⟩
    have key : ∀ i, i < len → ∃ cs' y, R.rep w (fun g => g < w.heap.size) cs' y ∧ ∀ j u, cs'[j]? = some u → w.cell? (a.add (i * R.size + j)) = some u := fun i hil => by
      obtain ⟨cs', h1, h2⟩ := hi i (by omega)
      obtain ⟨y, hy⟩ := h.2 _ _ _ _ _ _ _ _ _ h2
      obtain ⟨_, _, hat⟩ := World.cells?_some h1
      refine ⟨cs', y, hy, fun j u hu => ?_⟩
      have hj : j < R.size := by have := (List.getElem?_eq_some_iff.1 hu).1; rwa [R.len hy] at this
      have := hat j hj
      rw [add_of_add] at this
      exact this.trans hu
    have first : ∃ u, w.cell? a = some u := by
      obtain ⟨cs', y, hy, hat⟩ := key 0 (by omega)
      have hp := R.pos
      have hl : 0 < cs'.length := by rw [R.len hy]; exact hp
      have := hat 0 cs'[0] (List.getElem?_eq_getElem hl)
      exact ⟨cs'[0], by simpa [Addr.add] using this⟩
    obtain ⟨u0, hu0⟩ := first
    have hbl := lt_of_cell hu0
    obtain ⟨b, o, q⟩ := a
    have hq : q = none := by
      cases q with
      | none => rfl
      | some q =>
        simp only [World.cell?] at hu0
        split at hu0 <;> cases hu0
    subst hq
    have list : ∀ k, k ≤ len → ∃ l : List α, l.length = k ∧ ∀ i y, l[i]? = some y → ∃ cs', R.rep w (fun g => g < w.heap.size) cs' y ∧ ∀ j u, cs'[j]? = some u → w.cell? ⟨b, o + i * R.size + j, none⟩ = some u := by
      intro k
      induction k with
      | zero => intro _; exact ⟨[], rfl, by simp⟩
      | succ k ih =>
        intro hk
        obtain ⟨l, hn, hl'⟩ := ih (by omega)
        obtain ⟨cs', y, hy, hat⟩ := key k (by omega)
        refine ⟨l ++ [y], by simp [hn], fun i y' hi' => ?_⟩
        by_cases hik : i < k
        · rw [List.getElem?_append_left (by omega)] at hi'
          exact hl' i y' hi'
        · rw [List.getElem?_append_right (by omega), hn] at hi'
          have : i = k := by
            have := (List.getElem?_eq_some_iff.1 hi').1
            simp at this; omega
          subst this
          simp at hi'
          subst hi'
          refine ⟨cs', hy, fun j u hu => ?_⟩
          have := hat j u hu
          rwa [add_off, ← Nat.add_assoc] at this
    obtain ⟨l, hn, hl'⟩ := list len (Nat.le_refl _)
    subst hn
    exact ⟨l, _, cap, hcs, hl, hcap', fun _ => ⟨b, o, rfl, hbl, hbl, hl'⟩⟩⟩
theorem opens_int : Opens IntR 3 := ⟨by kernel_rfl, fun H enc w base sp held fuel cs x hx => by
  obtain ⟨n, rfl, _, h⟩ := DataW.trod_int Tryz.underlying3 hx
  exact ⟨n, rfl, by have := h; simp only [Lit.wf, Bool.and_eq_true, decide_eq_true_eq, show IntKind.i64.min = -9223372036854775808 from by decide, show IntKind.i64.max = 9223372036854775807 from by decide] at this; omega⟩⟩
theorem opens_string : Opens StrR 9 := ⟨by kernel_rfl, fun H enc w base sp held fuel cs x hx => by
  obtain ⟨s, rfl, _, h⟩ := DataW.trod_string Tryz.underlying9 hx
  exact ⟨s, rfl, by unfold maxLen at h; omega⟩⟩
theorem opens_bool : Opens BoolR 4 := ⟨by kernel_rfl, fun H enc w base sp held fuel cs x hx => by
  obtain ⟨b, rfl, _⟩ := DataW.trod_bool Tryz.underlying4 hx
  exact ⟨b, rfl⟩⟩
end
theorem opens_strings : Opens StrR.sl 27 := opens_string.sl Tryz.underlying27 (by kernel_rfl)
theorem opens_ints : Opens IntR.sl 38 := opens_int.sl Tryz.underlying38 (by kernel_rfl)
theorem opens_stamp : Opens StampR 37 := Opens.via (fun s => ⟨s.1, s.2.1, s.2.2⟩) (fun _ => rfl) (OpensF.struct Tryz.underlying37 (by kernel_rfl) (by kernel_rfl) (opens_int.more (opens_int.more opens_int.one)))
theorem opens_tx : Opens TxR 34 := Opens.via (fun s => ⟨s.1, s.2.1, s.2.2⟩) (fun _ => rfl) (OpensF.struct Tryz.underlying34 (by kernel_rfl) (by kernel_rfl) (opens_int.more (opens_int.more opens_int.one)))
theorem opens_range : Opens RangeR 40 := Opens.via (fun s => ⟨s.1, s.2.1, s.2.2.1, s.2.2.2⟩) (fun _ => rfl) (OpensF.struct Tryz.underlying40 (by kernel_rfl) (by kernel_rfl) (opens_int.more (opens_int.more (opens_int.more opens_int.one))))
theorem opens_put : Opens PutR 29 := Opens.via (fun s => ⟨s.1, s.2.1, s.2.2⟩) (fun _ => rfl) (OpensF.struct Tryz.underlying29 (by kernel_rfl) (by kernel_rfl) (opens_string.more (opens_int.more opens_strings.one)))
theorem opens_puts : Opens PutR.sl 30 := opens_put.sl Tryz.underlying30 (by kernel_rfl)
theorem opens_batch : Opens BatchR 32 := Opens.via (fun s => ⟨s.1, s.2⟩) (fun _ => rfl) (OpensF.struct Tryz.underlying32 (by kernel_rfl) (by kernel_rfl) (opens_string.more opens_puts.one))
theorem opens_event : Opens EventR 63 := Opens.via (fun s => ⟨s.1, s.2.1, s.2.2.1, s.2.2.2.1, s.2.2.2.2⟩) (fun _ => rfl) (OpensF.struct Tryz.underlying63 (by kernel_rfl) (by kernel_rfl) (opens_string.more (opens_int.more (opens_string.more (opens_stamp.more opens_int.one)))))
theorem opens_events : Opens EventR.sl 45 := opens_event.sl Tryz.underlying45 (by kernel_rfl)
theorem opens_known : Opens KnownR 70 := Opens.via (fun s => ⟨s.1, s.2.1, s.2.2⟩) (fun _ => rfl) (OpensF.struct Tryz.underlying70 (by kernel_rfl) (by kernel_rfl) (opens_string.more (opens_int.more opens_stamp.one)))
theorem opens_knowns : Opens KnownR.sl 59 := opens_known.sl Tryz.underlying59 (by kernel_rfl)
theorem opens_stream : Opens StreamR 61 := Opens.via (fun s => ⟨s.1, s.2.1, s.2.2⟩) (fun _ => rfl) (OpensF.struct Tryz.underlying61 (by kernel_rfl) (by kernel_rfl) (opens_string.more (opens_events.more opens_knowns.one)))
theorem opens_streams : Opens StreamR.sl 41 := opens_stream.sl Tryz.underlying41 (by kernel_rfl)
theorem opens_rec : Opens RecR 43 := Opens.via (fun s => ⟨s.1, s.2.1, s.2.2.1, s.2.2.2.1, s.2.2.2.2.1, s.2.2.2.2.2.1, s.2.2.2.2.2.2.1, s.2.2.2.2.2.2.2.1, s.2.2.2.2.2.2.2.2.1, s.2.2.2.2.2.2.2.2.2⟩) (fun _ => rfl)
  (OpensF.struct Tryz.underlying43 (by kernel_rfl) (by kernel_rfl) (opens_int.more (opens_int.more (opens_int.more (opens_bool.more (opens_stamp.more (opens_tx.more (opens_ints.more (opens_batch.more (opens_range.more opens_streams.one))))))))))
theorem opens_recs : Opens RecR.sl 48 := opens_rec.sl Tryz.underlying48 (by kernel_rfl)
theorem opens_ranges : Opens RangeR.sl 51 := opens_range.sl Tryz.underlying51 (by kernel_rfl)
end Go.Proofs.YtpgocpodhamibaaGreatDoor
