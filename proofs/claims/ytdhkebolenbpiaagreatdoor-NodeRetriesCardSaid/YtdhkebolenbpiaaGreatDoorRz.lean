/- NodeRetries: every call returns true. -/
import Derived.Test.YtdhkebolenbpiaaGreatDoorRe
import Derived.Test.YtdhkebolenbpiaaGreatDoorRta
import Derived.Test.YtdhkebolenbpiaaGreatDoorRtb
import Derived.Test.YtdhkebolenbpiaaGreatDoorRtc
import Derived.Test.YtdhkebolenbpiaaGreatDoorRtd
import Derived.Test.YtdhkebolenbpiaaGreatDoorRte
import Derived.Test.YtdhkebolenbpiaaGreatDoorRtf
import Derived.Test.YtdhkebolenbpiaaGreatDoorRtg
import Derived.Test.YtdhkebolenbpiaaGreatDoorRth
import Derived.Test.YtdhkebolenbpiaaGreatDoorRti
import Derived.Test.YtdhkebolenbpiaaGreatDoorRtj
import Derived.Test.YtdhkebolenbpiaaGreatDoorRtk
import Derived.Test.YtdhkebolenbpiaaGreatDoorRtl
import Derived.Test.YtdhkebolenbpiaaGreatDoorRtm
import Derived.Test.YtdhkebolenbpiaaGreatDoorRtn
import Derived.Test.YtdhkebolenbpiaaGreatDoorRto
import Derived.Test.YtdhkebolenbpiaaGreatDoorRtp
import Derived.Test.YtdhkebolenbpiaaGreatDoorRtq
import Derived.Test.YtdhkebolenbpiaaGreatDoorRtr
import Derived.Test.YtdhkebolenbpiaaGreatDoorRts
import Derived.Test.YtdhkebolenbpiaaGreatDoorRtt
import Derived.WalkKit
import Derived.WalkSpells
import Derived.ProofKit
import Derived.Lib.Hide
namespace Go.Proofs.YtdhkebolenbpiaaGreatDoor.X
open Go.RowKit S
theorem rt_ok (L : Nat) (h1 : 1 ≤ L) (h2 : L ≤ 100) : RtOk L := by
  by_cases h_Rta : L ≤ 5
  · exact Rta_ok L (by omega) h_Rta
  by_cases h_Rtb : L ≤ 10
  · exact Rtb_ok L (by omega) h_Rtb
  by_cases h_Rtc : L ≤ 15
  · exact Rtc_ok L (by omega) h_Rtc
  by_cases h_Rtd : L ≤ 20
  · exact Rtd_ok L (by omega) h_Rtd
  by_cases h_Rte : L ≤ 25
  · exact Rte_ok L (by omega) h_Rte
  by_cases h_Rtf : L ≤ 30
  · exact Rtf_ok L (by omega) h_Rtf
  by_cases h_Rtg : L ≤ 35
  · exact Rtg_ok L (by omega) h_Rtg
  by_cases h_Rth : L ≤ 40
  · exact Rth_ok L (by omega) h_Rth
  by_cases h_Rti : L ≤ 45
  · exact Rti_ok L (by omega) h_Rti
  by_cases h_Rtj : L ≤ 50
  · exact Rtj_ok L (by omega) h_Rtj
  by_cases h_Rtk : L ≤ 55
  · exact Rtk_ok L (by omega) h_Rtk
  by_cases h_Rtl : L ≤ 60
  · exact Rtl_ok L (by omega) h_Rtl
  by_cases h_Rtm : L ≤ 65
  · exact Rtm_ok L (by omega) h_Rtm
  by_cases h_Rtn : L ≤ 70
  · exact Rtn_ok L (by omega) h_Rtn
  by_cases h_Rto : L ≤ 75
  · exact Rto_ok L (by omega) h_Rto
  by_cases h_Rtp : L ≤ 80
  · exact Rtp_ok L (by omega) h_Rtp
  by_cases h_Rtq : L ≤ 85
  · exact Rtq_ok L (by omega) h_Rtq
  by_cases h_Rtr : L ≤ 90
  · exact Rtr_ok L (by omega) h_Rtr
  by_cases h_Rts : L ≤ 95
  · exact Rts_ok L (by omega) h_Rts
  exact Rtt_ok L (by omega) h2
theorem bif_true {a b : Bool} (h : (bif a then b else false) = true) : a = true ∧ b = true := by
  cases a
  · cases h
  · exact ⟨rfl, h⟩
theorem segsOk_good {P : Program} {G V n : Nat} {K : FuncId → List Value → St → Option (Value × St)} (hm : P.follows .mixedOrders = true) (hK : Known P G V K) : ∀ {l : List Seg}, segsOk P G K n l = true → ∀ g ∈ l, Good P G V g
  | [], _, _, hg => by cases hg
  | s :: l, h, g, hg => by
    have h' : iff' (segOk P G K n s) (segsOk P G K n l) false = true := h
    rw [iff_eq] at h'
    cases hs : segOk P G K n s with
    | false => rw [hs] at h'; cases h'
    | true =>
      rw [hs] at h'
      rcases List.mem_cons.1 hg with rfl | hg
      · exact good_of hm hK hs
      · exact segsOk_good hm hK h' g hg
section
variable {V L : Nat} {k : ByteArray}
theorem known_Rp (H : HR V L true k) : Known Tryz.prog 20 V (KRp L (ktx L)) := known_or (known_KMF Rc_good) (known_K0 H)
theorem known_Rq (H : HR V L true k) (h : RtOk L) : Known Tryz.prog 20 V (KRq L (ktx L)) := by
  have ha := h.a
  unfold rtA at ha
  rw [iff_eq] at ha
  have hp := (bif_true ha).1
  unfold rtP at hp
  rw [forceN_eq] at hp
  have k1 : Known Tryz.prog 20 V (KRp L (ktx L)) := known_Rp H
  exact @known_or _ _ _ _ _ (known_KMF (segsOk_good follows @k1 hp)) @k1
theorem known_Rr (H : HR V L true k) (h : RtOk L) : Known Tryz.prog 20 V (KRr L (ktx L)) := by
  have ha := h.a
  unfold rtA at ha
  rw [iff_eq] at ha
  have hp := (bif_true ha).2
  rw [iff_eq] at hp
  have hp := (bif_true hp).1
  unfold rtQ at hp
  rw [forceN_eq] at hp
  have k1 : Known Tryz.prog 20 V (KRq L (ktx L)) := known_Rq H h
  exact @known_or _ _ _ _ _ (known_KMF (segsOk_good follows @k1 hp)) @k1
theorem known_Rs (H : HR V L true k) (h : RtOk L) : Known Tryz.prog 20 V (KRs L (ktx L)) := by
  have ha := h.a
  unfold rtA at ha
  rw [iff_eq] at ha
  have hp := (bif_true ha).2
  rw [iff_eq] at hp
  have hp := (bif_true hp).2
  unfold rtR at hp
  rw [forceN_eq] at hp
  have k1 : Known Tryz.prog 20 V (KRr L (ktx L)) := known_Rr H h
  exact @known_or _ _ _ _ _ (known_KMF (segsOk_good follows @k1 hp)) @k1
theorem known_aw : Known Tryz.prog 20 V (KAf [4] 2 3) :=
  known_KAf (known_KA (by decide) (by decide) fun g hg => by rw [List.mem_singleton.1 hg]; exact awake24r)
theorem known_Rt (H : HR V L true k) (h : RtOk L) : Known Tryz.prog 20 V (KRt L (ktx L)) := by
  have ha := h.b
  unfold rtB at ha
  rw [iff_eq] at ha
  have hp := (bif_true ha).1
  unfold rtS at hp
  rw [forceN_eq] at hp
  have k1 : Known Tryz.prog 20 V (KRs L (ktx L)) := known_Rs H h
  have k2 := segsOk_good follows @k1 hp
  have k3 : Known Tryz.prog 20 V (KAf [4] 2 3) := known_aw
  exact @known_or _ _ _ _ _ @k3 (known_or (known_KNum3 (known_KMF k2)) (known_or (known_KMF k2) @k1))
theorem known_Ri (H : HR V L false k) : Known Tryz.prog 20 V (KRi L (ktx L)) := by
  have k3 : Known Tryz.prog 20 V (KAf [4] 2 3) := known_aw
  exact @known_or _ _ _ _ _ @k3 (known_or (known_KMF Rc_good) (known_K0 H))
end
def rngK (lo hi : Nat) : Bool := decide (rK (rCode .i64 lo hi) = .i64) && (Nat.beq (rLo (rCode .i64 lo hi)) lo && Nat.beq (rHi (rCode .i64 lo hi)) hi)
theorem rng_of {ρ : Ren} {lo hi : Nat} {e : Int} (hk : rngK lo hi = true) (h1 : (lo : Int) ≤ e) (h2 : e ≤ (hi : Int)) : VRel ρ (.float .f32 (rCode .i64 lo hi)) (.int .i64 e) := by
  unfold rngK at hk
  simp only [Bool.and_eq_true, decide_eq_true_eq] at hk
  have g1 := Nat.eq_of_beq_eq_true hk.2.1
  have g2 := Nat.eq_of_beq_eq_true hk.2.2
  have := VRel.rng (ρ := ρ) (rCode .i64 lo hi) e.toNat ⟨by omega, by omega⟩
  rw [hk.1, Int.toNat_of_nonneg (by omega)] at this
  exact this
theorem key_rel {V L : Nat} {r : Bool} {k : ByteArray} (H : HR V L r k) : VRel (startR 20 V) (.complex .f64 19 (ktx L)) (.string k) :=
  .sstr 19 (ktx L) ⟨19, V, 0⟩ _ rfl (by rw [sv_txt _ H.txt, H.key])
theorem nr_valid {V L : Nat} {k : ByteArray} (H : HR V L true k) (h : RtOk L) {n m : Nat} (hn : 1 ≤ n ∧ n ≤ 5) (hm : m ≤ 5) (w : World) (hT : Lib.Utf8Tabs 2 3 w) :
    Calls Tryz.prog 3 #[.string k, .int .i64 (.ofNat n), .int .i64 (.ofNat m)] w fun r w' => r = .returned (.bool true) ∧ Below w.heap.size w w' := by
  have hr := h.t n hn.1 hn.2
  unfold rtT at hr
  rw [forceN_eq] at hr
  have hr := allFrom_at hr (j := m) (Nat.zero_le _) (by omega)
  unfold rtRun at hr
  have k1 : Known Tryz.prog 20 V (KRt L (ktx L)) := known_Rt H h
  exact true_of_runF (V := V) (n := 10000000) (K := KRt L (ktx L)) (args := [.complex .f64 19 (ktx L), .int .i64 (.ofNat n), .int .i64 (.ofNat m)]) (args' := [.string k, .int .i64 (.ofNat n), .int .i64 (.ofNat m)]) follows @k1 (by decide) (by decide) (by decide) hr
    (.cons _ _ _ _ (key_rel H) (.cons _ _ _ _ (.int _ _) (.cons _ _ _ _ (.int _ _) .nil))) w hT
theorem nr_invalid {V L : Nat} {k : ByteArray} (H : HR V L false k) (h : RtOk L) {n m : Int} (hn : 1 ≤ n ∧ n ≤ 5) (hm : 0 ≤ m ∧ m ≤ 5) (w : World) (hT : Lib.Utf8Tabs 2 3 w) :
    Calls Tryz.prog 3 #[.string k, .int .i64 n, .int .i64 m] w fun r w' => r = .returned (.bool true) ∧ Below w.heap.size w w' := by
  have hr := h.b
  unfold rtB at hr
  rw [iff_eq] at hr
  have hr := (bif_true hr).2
  unfold rtI at hr
  rw [forceN_eq] at hr
  unfold rtRunI at hr
  have k1 : Known Tryz.prog 20 V (KRi L (ktx L)) := known_Ri H
  exact true_of_runF (V := V) (n := 10000000) (K := KRi L (ktx L)) (args := [.complex .f64 19 (ktx L), .float .f32 (rCode .i64 1 5), .float .f32 (rCode .i64 0 5)]) (args' := [.string k, .int .i64 n, .int .i64 m]) follows @k1 (by decide) (by decide) (by decide) hr
    (.cons _ _ _ _ (key_rel H) (.cons _ _ _ _ (rng_of (by kernel_rfl) hn.1 hn.2) (.cons _ _ _ _ (rng_of (by kernel_rfl) hm.1 hm.2) .nil))) w hT
end Go.Proofs.YtdhkebolenbpiaaGreatDoor.X
namespace Go.Proofs.YtdhkebolenbpiaaGreatDoor
open Go.RowKit
set_option maxRecDepth 20000 in
set_option maxHeartbeats 3200000 in
theorem nr_out (key : ByteArray) (n m : Int) (w : World) (hk : key.size ≤ 9223372036854775807) (hn0 : -9223372036854775808 ≤ n) (hn9 : n ≤ 9223372036854775807) (hm0 : -9223372036854775808 ≤ m) (hm9 : m ≤ 9223372036854775807)
    (hT : Tabs w) (hout : ¬ (1 ≤ key.size ∧ key.size ≤ 100 ∧ 1 ≤ n ∧ n ≤ 5 ∧ 0 ≤ m ∧ m ≤ 5)) : Calls Tryz.prog 3 #[.string key, .int .i64 n, .int .i64 m] w fun r w' => r = .returned (.bool true) ∧ Below w.heap.size w w' := by
  have CA := Lib.hid (X.awake24r w hT)
  clear hT
  by_cases h1 : (100 : Int) < key.size
  · clear hout
    go_enter Tryz.func3, Tryz.ntmps3
    go_wp2_with fail
    refine (CA.out).mono ?_
    rintro e w1 ⟨rfl, hb1⟩
    go_wp2_with fail
    go_ret
    exact ⟨rfl, hb1⟩
  by_cases h2 : key.toList.isEmpty = true
  · clear hout
    go_enter Tryz.func3, Tryz.ntmps3
    go_wp2_with fail
    refine (CA.out).mono ?_
    rintro e w1 ⟨rfl, hb1⟩
    go_wp2_with fail
    go_ret
    exact ⟨rfl, hb1⟩
  have h2 : key.toList.isEmpty = false := by simpa using h2
  have hsz : 1 ≤ key.size := by
    rcases Nat.eq_zero_or_pos key.size with h | h
    · exfalso
      have : key.toList = [] := by
        obtain ⟨d⟩ := key
        have hd : d = #[] := Array.eq_empty_of_size_eq_zero h
        subst hd
        unfold ByteArray.toList ByteArray.toList.loop
        rfl
      rw [this] at h2
      cases h2
    · exact h
  by_cases h3 : n < 1
  · clear hout
    go_enter Tryz.func3, Tryz.ntmps3
    go_wp2_with fail
    refine (CA.out).mono ?_
    rintro e w1 ⟨rfl, hb1⟩
    go_wp2_with fail
    go_ret
    exact ⟨rfl, hb1⟩
  by_cases h4 : 5 < n
  · clear hout
    go_enter Tryz.func3, Tryz.ntmps3
    go_wp2_with fail
    refine (CA.out).mono ?_
    rintro e w1 ⟨rfl, hb1⟩
    go_wp2_with fail
    go_ret
    exact ⟨rfl, hb1⟩
  by_cases h5 : m < 0
  · clear hout
    go_enter Tryz.func3, Tryz.ntmps3
    go_wp2_with fail
    refine (CA.out).mono ?_
    rintro e w1 ⟨rfl, hb1⟩
    go_wp2_with fail
    go_ret
    exact ⟨rfl, hb1⟩
  by_cases h6 : 5 < m
  · clear hout
    go_enter Tryz.func3, Tryz.ntmps3
    go_wp2_with fail
    refine (CA.out).mono ?_
    rintro e w1 ⟨rfl, hb1⟩
    go_wp2_with fail
    go_ret
    exact ⟨rfl, hb1⟩
  exact absurd ⟨hsz, by omega, by omega, by omega, by omega, by omega⟩ hout
end Go.Proofs.YtdhkebolenbpiaaGreatDoor
namespace Go.Proofs.YtdhkebolenbpiaaGreatDoor.X
open Go.RowKit
theorem nodeRetries_any (key : ByteArray) (n m : Int) (w : World) (hk : key.size ≤ 9223372036854775807) (hn : -9223372036854775808 ≤ n ∧ n ≤ 9223372036854775807) (hm : -9223372036854775808 ≤ m ∧ m ≤ 9223372036854775807) (hT : Lib.Utf8Tabs 2 3 w) :
    Calls Tryz.prog 3 #[.string key, .int .i64 n, .int .i64 m] w fun r w' => r = .returned (.bool true) ∧ Below w.heap.size w w' := by
  by_cases hin : 1 ≤ key.size ∧ key.size ≤ 100 ∧ 1 ≤ n ∧ n ≤ 5 ∧ 0 ≤ m ∧ m ≤ 5
  · obtain ⟨a1, a2, a3, a4, a5, a6⟩ := hin
    have H := HR_of key a1 a2
    have hok := rt_ok key.size a1 a2
    cases hv : keyB key with
    | true =>
      rw [hv] at H
      obtain ⟨n', rfl⟩ : ∃ n' : Nat, n = .ofNat n' := ⟨n.toNat, by show n = (n.toNat : Int); omega⟩
      obtain ⟨m', rfl⟩ : ∃ m' : Nat, m = .ofNat m' := ⟨m.toNat, by show m = (m.toNat : Int); omega⟩
      have b3 : (1 : Int) ≤ (n' : Int) := a3
      have b4 : (n' : Int) ≤ 5 := a4
      have b6 : (m' : Int) ≤ 5 := a6
      exact nr_valid H hok ⟨by omega, by omega⟩ (by omega) w hT
    | false =>
      rw [hv] at H
      exact nr_invalid H hok ⟨a3, a4⟩ ⟨a5, a6⟩ w hT
  · exact nr_out key n m w hk hn.1 hn.2 hm.1 hm.2 hT hin
end Go.Proofs.YtdhkebolenbpiaaGreatDoor.X
