/- Numbers as bytes. Texts, numbers and stamps as bytes. The library's small loops over slices. Words for maps: a map's entries, told one behind the other. The library's DeleteFunc and Equal over texts. -/
import Derived.Test.YtpgocpodhamibaaGreatDoorNK01
import Derived.Lib.AppendStr
import Derived.MapKept
import Derived.Maps.OwnSet
import Derived.Lib.SliceRun
namespace Go.Proofs.YtpgocpodhamibaaGreatDoor
open Go.RowKit
def ByteR : Rep Value where
 size := 1
 rep _ _ cs u := cs = [u] ∧ u.oneCell' = true
 pos := by decide
 len h := by simp [h.1]
 one h := by intro v hv; rw [h.1] at hv; simp at hv; rw [hv]; exact h.2
 same h _ := h
 mono h _ := h
theorem byte_flat {w : World} {P : Nat → Prop} {xs : List Value} (h : ∀ u ∈ xs, u.oneCell' = true) : ByteR.flat w P xs xs := by
 refine ⟨xs.map fun u => [u], by induction xs with
  | nil => rfl
  | cons x l ih => simp [← ih (fun u hu => h u (by simp [hu]))], by simp, fun i cs a h1 h2 => ?_⟩
 rw [List.getElem?_map, h2] at h1
 simp at h1
 exact ⟨h1.symm, h a (List.mem_of_getElem? h2)⟩
def Bts (w : World) (base : Nat) (v : Value) (n : Nat) : Prop := ∃ l : List Value, l.length = n ∧ ByteR.Own w base 5 (fun g => base ≤ g) v l
theorem Bts.ext {w w' : World} {base n : Nat} {v : Value} (h : Bts w base v n) (hb : Below w.heap.size w w') : Bts w' base v n := by
 obtain ⟨l, hl, ho⟩ := h
 exact ⟨l, hl, ho.ext hb⟩
theorem Bts.form {w : World} {base n : Nat} {v : Value} (h : Bts w base v n) : ∃ A c, v = .slice A n c ∧ n ≤ c ∧ c ≤ 9223372036854775807 := by
 obtain ⟨l, rfl, ho⟩ := h
 exact ho.form
theorem Bts.lt {w : World} {base n : Nat} {v : Value} (h : Bts w base v n) : ∀ k, v.ownBlock = some k → base ≤ k ∧ k < w.heap.size := by
 obtain ⟨l, _, ho⟩ := h
 exact ho.lt
theorem Bts.nil_ (w : World) (base : Nat) : Bts w base (.slice none 0 0) 0 := ⟨[], rfl, Rep.Own.nil_⟩
theorem Bts.raw {w : World} {base n : Nat} {v : Value} (h : Bts w base v n) : ∃ xs, w.ownsRow base 5 1 v n xs ∧ ∀ u ∈ xs, u.oneCell' = true := by
 obtain ⟨l, rfl, xs, h1, h2⟩ := h
 exact ⟨xs, h1, h2.ones⟩
theorem Bts.of_raw {w : World} {base n : Nat} {v : Value} {xs : List Value} (h : w.ownsRow base 5 1 v n xs) (h1 : ∀ u ∈ xs, u.oneCell' = true) : Bts w base v n := by
 have hl : xs.length = n := by simpa using h.1
 exact ⟨xs, hl, xs, by rw [hl]; exact h, byte_flat h1⟩
theorem Bts.of_own {w : World} {base : Nat} {S : Nat → Prop} {v : Value} {l : List Value} (h : ByteR.Own w base 5 S v l) : Bts w base v l.length := by
 obtain ⟨xs, h1, h2⟩ := h
 exact Bts.of_raw h1 h2.ones
theorem Bts.base_ {w : World} {base base' n : Nat} {v : Value} (h : Bts w base v n) (hb : base' ≤ base) : Bts w base' v n := by
 obtain ⟨l, hl, xs, h1, h2⟩ := h
 exact ⟨l, hl, xs, h1.base_ (fun g hg => by have := (h1.lt g hg).1; omega), h2.mono fun g hg _ => ⟨by have := hg.1; omega, hg.2⟩⟩
theorem Bts.row {w : World} {base n c : Nat} {A : Option Addr} (h : Bts w base (.slice A n c) n) : ∃ l : List Value, l.length = n ∧ ByteR.Row w (fun g => base ≤ g) A l := by
 obtain ⟨l, rfl, ho⟩ := h
 exact ⟨l, rfl, ho.row fun _ h => h⟩
theorem byte_info : (Tryz.prog.info? 5).map (fun i => (i.zero, i.size, i.bytes)) = some (some (.int .u8 0), 1, 1) := by kernel_rfl
theorem wpList_append_bts {w : World} {ops : Array Oper} {rest : List Oper} {o : Oper} {a : Act} {Q' : Exit → Act → World → Prop} (hgd : o.guard = none) (s x : Operand)
 (ho : o.op = .call { callee := .builtin .append, args := #[s, x], argTypes := #[184, 184] })
 (base base' : Nat) (v : Value) (n : Nat) (hs : a.eval s = v) (hv : Bts w base v n) (r : Value) (m : Nat) (hx : a.eval x = r) (hr : Bts w base' r m) (hb : base ≤ base') (hne : ∀ g, base' ≤ g → some g ≠ v.ownBlock)
 (hl : n + m ≤ 100000000) (hbase : base ≤ w.heap.size)
 (h : ∀ v' w', Bts w' base v' (n + m) → Below base w w' → w.grownBy w' v.ownBlock → (v'.ownBlock = v.ownBlock ∨ v'.ownBlock = some w.heap.size) → wpList Tryz.prog ops Q' rest (a.put o.dst v') w') : wpList Tryz.prog ops Q' (o :: rest) a w := by
 obtain ⟨i0, hi0, hz0, hz1, hz2⟩ := info_parts byte_info
 obtain ⟨A, c, rfl, _⟩ := hr.form
 obtain ⟨lx, hlx, hrow⟩ := hr.row
 obtain ⟨l, rfl, hown⟩ := hv
 subst hlx
 refine wpList_append_rep (R := ByteR) w hgd s x 184 ho base 5 i0 _ 1 Tryz.underlying184 hi0 hz0 hz1 hz2 rfl v l (fun g => base ≤ g) hs hown _ A c lx hx hrow (fun g hg _ => ⟨Nat.le_trans hb hg, hne g hg⟩) (by simp only [maxLen]; omega) (by omega) hbase ?_
 intro v' w' h1 h2 h3 _ h5
 exact h v' w' ⟨_, by simp, h1⟩ h5 h2 h3
theorem strCells_one (s : ByteArray) : ∀ u ∈ Lib.strCells s, u.oneCell' = true := Lib.strCells_oneCell s
theorem wpList_append_text {w : World} {ops : Array Oper} {rest : List Oper} {o : Oper} {a : Act} {Q' : Exit → Act → World → Prop} (hgd : o.guard = none) (s x : Operand)
 (ho : o.op = .call { callee := .builtin .append, args := #[s, x], argTypes := #[184, 9] })
 (base : Nat) (v : Value) (n : Nat) (hs : a.eval s = v) (hv : Bts w base v n) (t : Str) (hx : a.eval x = .string t)
 (hl : n + t.size ≤ 100000000) (hbase : base ≤ w.heap.size)
 (h : ∀ v' w', Bts w' base v' (n + t.size) → Below base w w' → w.grownBy w' v.ownBlock → wpList Tryz.prog ops Q' rest (a.put o.dst v') w') : wpList Tryz.prog ops Q' (o :: rest) a w := by
 obtain ⟨i0, hi0, hz0, hz1, hz2⟩ := info_parts byte_info
 obtain ⟨xs, hown, h1⟩ := hv.raw
 refine Lib.wpList_append_own_string w hgd s x 184 9 ho base 5 i0 Tryz.underlying184 Tryz.underlying9 hi0 hz0 hz1 hz2 v n xs hs hown t hx (by simp only [maxLen]; omega) (by omega) hbase ?_
 intro v' w' h2 h3 _
 refine h v' w' (Bts.of_raw h2 fun u hu => ?_) ((jb base w).grown h3 hbase fun k hk => (hv.lt k hk).1) h3
 rcases List.mem_append.1 hu with h | h
 ·exact h1 u h
 ·exact strCells_one t u h
def GotBts (B lo hi : Nat) (e : Ending) (w' : World) : Prop := ∃ r n, e = .returned r ∧ Bts w' B r n ∧ lo ≤ n ∧ n ≤ hi
def limV : Nat → Int
 | 0 => 18446744073709551616
 | 1 => 144115188075855872
 | 2 => 1125899906842624
 | 3 => 8796093022208
 | 4 => 68719476736
 | 5 => 536870912
 | 6 => 4194304
 | 7 => 32768
 | 8 => 256
 | 9 => 2
 | _ => 0
theorem limV_step (k : Nat) (x : Int) (h : x < limV k) (h1 : 127 < x) : k ≤ 8 ∧ x / 128 < limV (k + 1) := by
 match k, h with
 | 0, h => simp only [limV] at h ⊢; omega
 | 1, h => simp only [limV] at h ⊢; omega
 | 2, h => simp only [limV] at h ⊢; omega
 | 3, h => simp only [limV] at h ⊢; omega
 | 4, h => simp only [limV] at h ⊢; omega
 | 5, h => simp only [limV] at h ⊢; omega
 | 6, h => simp only [limV] at h ⊢; omega
 | 7, h => simp only [limV] at h ⊢; omega
 | 8, h => simp only [limV] at h ⊢; omega
 | 9, h => simp only [limV] at h; omega
 | k + 10, h => simp only [limV] at h; omega
set_option maxHeartbeats 1600000 in
theorem varint_any (v : Int) (w : World) (h0 : 0 ≤ v) (h1 : v < limV 0) :
 Calls Tryz.prog 265 #[.int .u64 v] w fun e w' => GotBts w.heap.size 1 10 e w' ∧ Below w.heap.size w w' := by
 obtain ⟨i0, hi0, hz0, hz1, hz2⟩ := info_parts byte_info
 go_enter Tryz.func265, Tryz.ntmps265
 go_wp2
 go_loopw [0, 2] (fun x o wr => ∃ (n : Int) (l : List Value), x = .int .u64 n ∧ 0 ≤ n ∧ n < limV l.length ∧ l.length ≤ 9 ∧ ByteR.Own wr w.heap.size 5 (fun g => w.heap.size ≤ g) o l ∧ Below w.heap.size w wr) (fun x _ _ => (intOf x).toNat)
 case atStart => exact ⟨v, [], rfl, h0, h1, by simp, Rep.Own.nil_, jb _ _⟩
 case round =>
  obtain ⟨n, l, rfl, hn0, hn1, hl, ho, hbl⟩ := hrel
  have HL := jh hn1; clear hn1
  have hsz := hbl.size
  by_cases hlt : 127 < n
  ·obtain ⟨hl8, hlim⟩ := limV_step _ _ HL.out hlt
   have HL2 := jh hlim; clear hlim
   go_wp2_with (at_builtin; refine wpList_append_new (R := ByteR) _ rfl (.tmp 5) (.tmp 9) _ rfl w.heap.size 5 i0 _ 1 Tryz.underlying184 hi0 hz0 hz1 hz2 rfl _ l (fun g => w.heap.size ≤ g) rfl ho (fun _ h => h) rfl (fun _ => False) _ ⟨rfl, rfl⟩ (fun _ h => h.elim) (by simp [maxLen]; omega) (by simp; omega) (by omega) ?_; intro v1 w1 ho1 hg1 hat1 hn1 hb1)
   go_roundw
   case rel => exact ⟨n / 128, _, rfl, by omega, by simpa using HL2.out, by simp; omega, ho1, hbl.trans hb1⟩
   case measure => simp [intOf]; omega
  ·go_wp2_with (at_builtin; refine wpList_append_new (R := ByteR) _ rfl (.tmp 13) (.tmp 16) _ rfl w.heap.size 5 i0 _ 1 Tryz.underlying184 hi0 hz0 hz1 hz2 rfl _ l (fun g => w.heap.size ≤ g) rfl ho (fun _ h => h) rfl (fun _ => False) _ ⟨rfl, rfl⟩ (fun _ h => h.elim) (by simp [maxLen]; omega) (by simp; omega) (by omega) ?_; intro v1 w1 ho1 hg1 hat1 hn1 hb1)
   go_ret
   exact ⟨⟨_, l.length + 1, rfl, ⟨_, by simp, ho1⟩, by omega, by omega⟩, hbl.trans hb1⟩
def GotU64 (e : Ending) : Prop := ∃ v, e = .returned (.int .u64 v) ∧ 0 ≤ v ∧ v < limV 0
theorem wrap_u64_bd (n : Int) : 0 ≤ IntKind.u64.wrap n ∧ IntKind.u64.wrap n < limV 0 := by
 rw [IntKind.wrap_u64]; simp only [limV]; omega
set_option maxHeartbeats 400000 in
theorem zig_any (n : Int) (w : World) (h : i64 n) : Calls Tryz.prog 212 #[.int .i64 n] w fun e w' => GotU64 e ∧ w = w' := by
 obtain ⟨h0, h1⟩ := h
 go_enter Tryz.func212, Tryz.ntmps212
 go_wp2
 go_ret
 exact ⟨⟨_, rfl, wrap_u64_bd _⟩, rfl⟩
theorem str_info : (Tryz.prog.info? 9).map (fun i => (i.zero, i.size, i.bytes)) = some (some (.string ⟨#[]⟩), 1, 16) := by kernel_rfl
theorem int_info : (Tryz.prog.info? 3).map (fun i => (i.zero, i.size, i.bytes)) = some (some (.int .i64 0), 1, 8) := by kernel_rfl
theorem event_info : (Tryz.prog.info? 63).map (fun i => (i.zero, i.size, i.bytes)) = some (some (.agg #[.string ⟨#[]⟩, .int .i64 0, .string ⟨#[]⟩, .int .i64 0, .int .i64 0, .int .i64 0, .int .i64 0]), 7, 72) := by kernel_rfl
theorem range_info : (Tryz.prog.info? 40).map (fun i => (i.zero, i.size, i.bytes)) = some (some (.agg #[.int .i64 0, .int .i64 0, .int .i64 0, .int .i64 0]), 4, 32) := by kernel_rfl
theorem put_info : (Tryz.prog.info? 29).map (fun i => (i.zero, i.size, i.bytes)) = some (some (.agg #[.string ⟨#[]⟩, .int .i64 0, .slice none 0 0]), 3, 48) := by kernel_rfl
theorem rec_info : (Tryz.prog.info? 43).map (fun i => (i.zero, i.size, i.bytes)) = some (some (.agg #[.int .i64 0, .int .i64 0, .int .i64 0, .bool false, .int .i64 0, .int .i64 0, .int .i64 0, .int .i64 0, .int .i64 0, .int .i64 0, .slice none 0 0, .string ⟨#[]⟩, .slice none 0 0, .int .i64 0, .int .i64 0, .int .i64 0, .int .i64 0, .slice none 0 0]), 18, 200) := by kernel_rfl
def GotOwn {α : Type} (R : Rep α) (B e : Nat) (S : Nat → Prop) (l : List α) (en : Ending) (w' : World) : Prop := ∃ v, en = .returned v ∧ R.Own w' B e S v l
set_option maxHeartbeats 400000 in
theorem cloneNil_byte (n c : Nat) (w : World) : Calls Tryz.prog 266 #[.slice none n c] w fun e w' => e = .returned (.slice none 0 0) ∧ w = w' := by
 have hq := fun (w : World) => Lib.run_eql_slice_nil (P := Tryz.prog) w 184 5 none n c 0 0 Tryz.underlying184
 go_enter Tryz.func266, Tryz.ntmps266
 go_wp2
 go_ret
 exact ⟨rfl, rfl⟩
set_option maxHeartbeats 400000 in
theorem clone_byte (A : Option Addr) (c : Nat) (l : List Value) (Q : Nat → Prop) (w : World) (hr : ByteR.Row w Q A l) (hl : l.length ≤ 100000000) :
 Calls Tryz.prog 266 #[.slice A l.length c] w fun e w' => GotOwn ByteR w.heap.size 5 (fun g => w.heap.size ≤ g ∨ Q g) l e w' ∧ Below w.heap.size w w' := by
 obtain ⟨i0, hi0, hz0, hz1, hz2⟩ := info_parts byte_info
 have hq := fun (w : World) => Lib.run_eql_slice_nil (P := Tryz.prog) w 184 5 A l.length c 0 0 Tryz.underlying184
 cases A with
 | none =>
   have hn : l = [] := by
    rcases Nat.eq_zero_or_pos l.length with h | h
    ·exact List.eq_nil_of_length_eq_zero h
    ·obtain ⟨_, _, e, _⟩ := hr h; cases e
   subst hn
   refine (cloneNil_byte 0 c w).mono ?_
   rintro e w' ⟨rfl, rfl⟩
   exact ⟨⟨_, rfl, Rep.Own.nil_⟩, jb _ _⟩
 | some ad =>
   have hr1 : ByteR.Row (w.alloc (.cells #[] 5)) (fun g => Q g ∧ g < w.heap.size) (some ad) l := (hr.mono fun g h hl => ⟨h, hl⟩).ext ((jb _ _).al _)
   have ho : ByteR.Own (w.alloc (.cells #[] 5)) w.heap.size 5 (fun g => w.heap.size ≤ g ∨ Q g) (.slice (some ⟨w.heap.size, 0, none⟩) 0 0) [] := ⟨[], World.ownsRow_made w #[] 0 (Nat.le_refl _) (by decide) rfl, Rep.flat.nil_⟩
   have HR := jh hr1
   have HL := jh hl
   clear hr1 hr hl
   go_enter Tryz.func266, Tryz.ntmps266
   go_wp2_with (at_builtin; go_loud (refine wpList_append_rep (R := ByteR) _ rfl (.tmp 5) (.tmp 6) _ rfl w.heap.size 5 i0 _ 1 Tryz.underlying184 hi0 hz0 hz1 hz2 rfl (.slice (some ⟨w.heap.size, 0, none⟩) 0 0) [] (fun g => w.heap.size ≤ g ∨ Q g) rfl ho _ (some ad) c l rfl HR.out (fun g hg _ => ⟨.inr hg.1, fun h => by have h2 := hg.2; simp [Value.ownBlock] at h; omega⟩) (by have := HL.out; simp [maxLen]; omega) (by have := HL.out; simp; omega) (by simp) ?_); intro v1 w1 ho1 hg1 hat1 hn1 hb1)
   go_ret
   exact ⟨⟨_, rfl, ho1⟩, ((jb _ _).al _).trans hb1⟩
set_option maxHeartbeats 400000 in
theorem cloneNil_string (n c : Nat) (w : World) : Calls Tryz.prog 204 #[.slice none n c] w fun e w' => e = .returned (.slice none 0 0) ∧ w = w' := by
 have hq := fun (w : World) => Lib.run_eql_slice_nil (P := Tryz.prog) w 27 9 none n c 0 0 Tryz.underlying27
 go_enter Tryz.func204, Tryz.ntmps204
 go_wp2
 go_ret
 exact ⟨rfl, rfl⟩
set_option maxHeartbeats 400000 in
theorem clone_string (A : Option Addr) (c : Nat) (l : List Str) (Q : Nat → Prop) (w : World) (hr : StrR.Row w Q A l) (hl : l.length ≤ 100000000) :
 Calls Tryz.prog 204 #[.slice A l.length c] w fun e w' => GotOwn StrR w.heap.size 9 (fun g => w.heap.size ≤ g ∨ Q g) l e w' ∧ Below w.heap.size w w' := by
 obtain ⟨i0, hi0, hz0, hz1, hz2⟩ := info_parts str_info
 have hq := fun (w : World) => Lib.run_eql_slice_nil (P := Tryz.prog) w 27 9 A l.length c 0 0 Tryz.underlying27
 cases A with
 | none =>
   have hn : l = [] := by
    rcases Nat.eq_zero_or_pos l.length with h | h
    ·exact List.eq_nil_of_length_eq_zero h
    ·obtain ⟨_, _, e, _⟩ := hr h; cases e
   subst hn
   refine (cloneNil_string 0 c w).mono ?_
   rintro e w' ⟨rfl, rfl⟩
   exact ⟨⟨_, rfl, Rep.Own.nil_⟩, jb _ _⟩
 | some ad =>
   have hr1 : StrR.Row (w.alloc (.cells #[] 9)) (fun g => Q g ∧ g < w.heap.size) (some ad) l := (hr.mono fun g h hl => ⟨h, hl⟩).ext ((jb _ _).al _)
   have ho : StrR.Own (w.alloc (.cells #[] 9)) w.heap.size 9 (fun g => w.heap.size ≤ g ∨ Q g) (.slice (some ⟨w.heap.size, 0, none⟩) 0 0) [] := ⟨[], World.ownsRow_made w #[] 0 (Nat.le_refl _) (by decide) rfl, Rep.flat.nil_⟩
   have HR := jh hr1
   have HL := jh hl
   clear hr1 hr hl
   go_enter Tryz.func204, Tryz.ntmps204
   go_wp2_with (at_builtin; go_loud (refine wpList_append_rep (R := StrR) _ rfl (.tmp 5) (.tmp 6) _ rfl w.heap.size 9 i0 _ 16 Tryz.underlying27 hi0 hz0 hz1 hz2 rfl (.slice (some ⟨w.heap.size, 0, none⟩) 0 0) [] (fun g => w.heap.size ≤ g ∨ Q g) rfl ho _ (some ad) c l rfl HR.out (fun g hg _ => ⟨.inr hg.1, fun h => by have h2 := hg.2; simp [Value.ownBlock] at h; omega⟩) (by have := HL.out; simp [maxLen]; omega) (by have := HL.out; simp; omega) (by simp) ?_); intro v1 w1 ho1 hg1 hat1 hn1 hb1)
   go_ret
   exact ⟨⟨_, rfl, ho1⟩, ((jb _ _).al _).trans hb1⟩
set_option maxHeartbeats 400000 in
theorem cloneNil_int (n c : Nat) (w : World) : Calls Tryz.prog 123 #[.slice none n c] w fun e w' => e = .returned (.slice none 0 0) ∧ w = w' := by
 have hq := fun (w : World) => Lib.run_eql_slice_nil (P := Tryz.prog) w 38 3 none n c 0 0 Tryz.underlying38
 go_enter Tryz.func123, Tryz.ntmps123
 go_wp2
 go_ret
 exact ⟨rfl, rfl⟩
set_option maxHeartbeats 400000 in
theorem clone_int (A : Option Addr) (c : Nat) (l : List Int) (Q : Nat → Prop) (w : World) (hr : IntR.Row w Q A l) (hl : l.length ≤ 100000000) :
 Calls Tryz.prog 123 #[.slice A l.length c] w fun e w' => GotOwn IntR w.heap.size 3 (fun g => w.heap.size ≤ g ∨ Q g) l e w' ∧ Below w.heap.size w w' := by
 obtain ⟨i0, hi0, hz0, hz1, hz2⟩ := info_parts int_info
 have hq := fun (w : World) => Lib.run_eql_slice_nil (P := Tryz.prog) w 38 3 A l.length c 0 0 Tryz.underlying38
 cases A with
 | none =>
   have hn : l = [] := by
    rcases Nat.eq_zero_or_pos l.length with h | h
    ·exact List.eq_nil_of_length_eq_zero h
    ·obtain ⟨_, _, e, _⟩ := hr h; cases e
   subst hn
   refine (cloneNil_int 0 c w).mono ?_
   rintro e w' ⟨rfl, rfl⟩
   exact ⟨⟨_, rfl, Rep.Own.nil_⟩, jb _ _⟩
 | some ad =>
   have hr1 : IntR.Row (w.alloc (.cells #[] 3)) (fun g => Q g ∧ g < w.heap.size) (some ad) l := (hr.mono fun g h hl => ⟨h, hl⟩).ext ((jb _ _).al _)
   have ho : IntR.Own (w.alloc (.cells #[] 3)) w.heap.size 3 (fun g => w.heap.size ≤ g ∨ Q g) (.slice (some ⟨w.heap.size, 0, none⟩) 0 0) [] := ⟨[], World.ownsRow_made w #[] 0 (Nat.le_refl _) (by decide) rfl, Rep.flat.nil_⟩
   have HR := jh hr1
   have HL := jh hl
   clear hr1 hr hl
   go_enter Tryz.func123, Tryz.ntmps123
   go_wp2_with (at_builtin; go_loud (refine wpList_append_rep (R := IntR) _ rfl (.tmp 5) (.tmp 6) _ rfl w.heap.size 3 i0 _ 8 Tryz.underlying38 hi0 hz0 hz1 hz2 rfl (.slice (some ⟨w.heap.size, 0, none⟩) 0 0) [] (fun g => w.heap.size ≤ g ∨ Q g) rfl ho _ (some ad) c l rfl HR.out (fun g hg _ => ⟨.inr hg.1, fun h => by have h2 := hg.2; simp [Value.ownBlock] at h; omega⟩) (by have := HL.out; simp [maxLen]; omega) (by have := HL.out; simp; omega) (by simp) ?_); intro v1 w1 ho1 hg1 hat1 hn1 hb1)
   go_ret
   exact ⟨⟨_, rfl, ho1⟩, ((jb _ _).al _).trans hb1⟩
set_option maxHeartbeats 400000 in
theorem cloneNil_Event (n c : Nat) (w : World) : Calls Tryz.prog 82 #[.slice none n c] w fun e w' => e = .returned (.slice none 0 0) ∧ w = w' := by
 have hq := fun (w : World) => Lib.run_eql_slice_nil (P := Tryz.prog) w 45 63 none n c 0 0 Tryz.underlying45
 go_enter Tryz.func82, Tryz.ntmps82
 go_wp2
 go_ret
 exact ⟨rfl, rfl⟩
set_option maxHeartbeats 400000 in
theorem clone_Event (A : Option Addr) (c : Nat) (l : List Event) (Q : Nat → Prop) (w : World) (hr : EventR.Row w Q A l) (hl : l.length ≤ 100000000) :
 Calls Tryz.prog 82 #[.slice A l.length c] w fun e w' => GotOwn EventR w.heap.size 63 (fun g => w.heap.size ≤ g ∨ Q g) l e w' ∧ Below w.heap.size w w' := by
 obtain ⟨i0, hi0, hz0, hz1, hz2⟩ := info_parts event_info
 have hq := fun (w : World) => Lib.run_eql_slice_nil (P := Tryz.prog) w 45 63 A l.length c 0 0 Tryz.underlying45
 cases A with
 | none =>
   have hn : l = [] := by
    rcases Nat.eq_zero_or_pos l.length with h | h
    ·exact List.eq_nil_of_length_eq_zero h
    ·obtain ⟨_, _, e, _⟩ := hr h; cases e
   subst hn
   refine (cloneNil_Event 0 c w).mono ?_
   rintro e w' ⟨rfl, rfl⟩
   exact ⟨⟨_, rfl, Rep.Own.nil_⟩, jb _ _⟩
 | some ad =>
   have hr1 : EventR.Row (w.alloc (.cells #[] 63)) (fun g => Q g ∧ g < w.heap.size) (some ad) l := (hr.mono fun g h hl => ⟨h, hl⟩).ext ((jb _ _).al _)
   have ho : EventR.Own (w.alloc (.cells #[] 63)) w.heap.size 63 (fun g => w.heap.size ≤ g ∨ Q g) (.slice (some ⟨w.heap.size, 0, none⟩) 0 0) [] := ⟨[], World.ownsRow_made w #[] 0 (Nat.le_refl _) (by decide) rfl, Rep.flat.nil_⟩
   have HR := jh hr1
   have HL := jh hl
   clear hr1 hr hl
   go_enter Tryz.func82, Tryz.ntmps82
   go_wp2_with (at_builtin; go_loud (refine wpList_append_rep (R := EventR) _ rfl (.tmp 5) (.tmp 6) _ rfl w.heap.size 63 i0 _ 72 Tryz.underlying45 hi0 hz0 hz1 hz2 rfl (.slice (some ⟨w.heap.size, 0, none⟩) 0 0) [] (fun g => w.heap.size ≤ g ∨ Q g) rfl ho _ (some ad) c l rfl HR.out (fun g hg _ => ⟨.inr hg.1, fun h => by have h2 := hg.2; simp [Value.ownBlock] at h; omega⟩) (by have := HL.out; simp [maxLen]; omega) (by have := HL.out; simp; omega) (by simp) ?_); intro v1 w1 ho1 hg1 hat1 hn1 hb1)
   go_ret
   exact ⟨⟨_, rfl, ho1⟩, ((jb _ _).al _).trans hb1⟩
set_option maxHeartbeats 400000 in
theorem cloneNil_Range (n c : Nat) (w : World) : Calls Tryz.prog 83 #[.slice none n c] w fun e w' => e = .returned (.slice none 0 0) ∧ w = w' := by
 have hq := fun (w : World) => Lib.run_eql_slice_nil (P := Tryz.prog) w 51 40 none n c 0 0 Tryz.underlying51
 go_enter Tryz.func83, Tryz.ntmps83
 go_wp2
 go_ret
 exact ⟨rfl, rfl⟩
set_option maxHeartbeats 400000 in
theorem clone_Range (A : Option Addr) (c : Nat) (l : List Range) (Q : Nat → Prop) (w : World) (hr : RangeR.Row w Q A l) (hl : l.length ≤ 100000000) :
 Calls Tryz.prog 83 #[.slice A l.length c] w fun e w' => GotOwn RangeR w.heap.size 40 (fun g => w.heap.size ≤ g ∨ Q g) l e w' ∧ Below w.heap.size w w' := by
 obtain ⟨i0, hi0, hz0, hz1, hz2⟩ := info_parts range_info
 have hq := fun (w : World) => Lib.run_eql_slice_nil (P := Tryz.prog) w 51 40 A l.length c 0 0 Tryz.underlying51
 cases A with
 | none =>
   have hn : l = [] := by
    rcases Nat.eq_zero_or_pos l.length with h | h
    ·exact List.eq_nil_of_length_eq_zero h
    ·obtain ⟨_, _, e, _⟩ := hr h; cases e
   subst hn
   refine (cloneNil_Range 0 c w).mono ?_
   rintro e w' ⟨rfl, rfl⟩
   exact ⟨⟨_, rfl, Rep.Own.nil_⟩, jb _ _⟩
 | some ad =>
   have hr1 : RangeR.Row (w.alloc (.cells #[] 40)) (fun g => Q g ∧ g < w.heap.size) (some ad) l := (hr.mono fun g h hl => ⟨h, hl⟩).ext ((jb _ _).al _)
   have ho : RangeR.Own (w.alloc (.cells #[] 40)) w.heap.size 40 (fun g => w.heap.size ≤ g ∨ Q g) (.slice (some ⟨w.heap.size, 0, none⟩) 0 0) [] := ⟨[], World.ownsRow_made w #[] 0 (Nat.le_refl _) (by decide) rfl, Rep.flat.nil_⟩
   have HR := jh hr1
   have HL := jh hl
   clear hr1 hr hl
   go_enter Tryz.func83, Tryz.ntmps83
   go_wp2_with (at_builtin; go_loud (refine wpList_append_rep (R := RangeR) _ rfl (.tmp 5) (.tmp 6) _ rfl w.heap.size 40 i0 _ 32 Tryz.underlying51 hi0 hz0 hz1 hz2 rfl (.slice (some ⟨w.heap.size, 0, none⟩) 0 0) [] (fun g => w.heap.size ≤ g ∨ Q g) rfl ho _ (some ad) c l rfl HR.out (fun g hg _ => ⟨.inr hg.1, fun h => by have h2 := hg.2; simp [Value.ownBlock] at h; omega⟩) (by have := HL.out; simp [maxLen]; omega) (by have := HL.out; simp; omega) (by simp) ?_); intro v1 w1 ho1 hg1 hat1 hn1 hb1)
   go_ret
   exact ⟨⟨_, rfl, ho1⟩, ((jb _ _).al _).trans hb1⟩
set_option maxHeartbeats 400000 in
theorem cloneNil_Put (n c : Nat) (w : World) : Calls Tryz.prog 203 #[.slice none n c] w fun e w' => e = .returned (.slice none 0 0) ∧ w = w' := by
 have hq := fun (w : World) => Lib.run_eql_slice_nil (P := Tryz.prog) w 30 29 none n c 0 0 Tryz.underlying30
 go_enter Tryz.func203, Tryz.ntmps203
 go_wp2
 go_ret
 exact ⟨rfl, rfl⟩
set_option maxHeartbeats 400000 in
theorem clone_Put (A : Option Addr) (c : Nat) (l : List Put) (Q : Nat → Prop) (w : World) (hr : PutR.Row w Q A l) (hl : l.length ≤ 100000000) :
 Calls Tryz.prog 203 #[.slice A l.length c] w fun e w' => GotOwn PutR w.heap.size 29 (fun g => w.heap.size ≤ g ∨ Q g) l e w' ∧ Below w.heap.size w w' := by
 obtain ⟨i0, hi0, hz0, hz1, hz2⟩ := info_parts put_info
 have hq := fun (w : World) => Lib.run_eql_slice_nil (P := Tryz.prog) w 30 29 A l.length c 0 0 Tryz.underlying30
 cases A with
 | none =>
   have hn : l = [] := by
    rcases Nat.eq_zero_or_pos l.length with h | h
    ·exact List.eq_nil_of_length_eq_zero h
    ·obtain ⟨_, _, e, _⟩ := hr h; cases e
   subst hn
   refine (cloneNil_Put 0 c w).mono ?_
   rintro e w' ⟨rfl, rfl⟩
   exact ⟨⟨_, rfl, Rep.Own.nil_⟩, jb _ _⟩
 | some ad =>
   have hr1 : PutR.Row (w.alloc (.cells #[] 29)) (fun g => Q g ∧ g < w.heap.size) (some ad) l := (hr.mono fun g h hl => ⟨h, hl⟩).ext ((jb _ _).al _)
   have ho : PutR.Own (w.alloc (.cells #[] 29)) w.heap.size 29 (fun g => w.heap.size ≤ g ∨ Q g) (.slice (some ⟨w.heap.size, 0, none⟩) 0 0) [] := ⟨[], World.ownsRow_made w #[] 0 (Nat.le_refl _) (by decide) rfl, Rep.flat.nil_⟩
   have HR := jh hr1
   have HL := jh hl
   clear hr1 hr hl
   go_enter Tryz.func203, Tryz.ntmps203
   go_wp2_with (at_builtin; go_loud (refine wpList_append_rep (R := PutR) _ rfl (.tmp 5) (.tmp 6) _ rfl w.heap.size 29 i0 _ 48 Tryz.underlying30 hi0 hz0 hz1 hz2 rfl (.slice (some ⟨w.heap.size, 0, none⟩) 0 0) [] (fun g => w.heap.size ≤ g ∨ Q g) rfl ho _ (some ad) c l rfl HR.out (fun g hg _ => ⟨.inr hg.1, fun h => by have h2 := hg.2; simp [Value.ownBlock] at h; omega⟩) (by have := HL.out; simp [maxLen]; omega) (by have := HL.out; simp; omega) (by simp) ?_); intro v1 w1 ho1 hg1 hat1 hn1 hb1)
   go_ret
   exact ⟨⟨_, rfl, ho1⟩, ((jb _ _).al _).trans hb1⟩
set_option maxHeartbeats 400000 in
theorem cloneNil_Rec (n c : Nat) (w : World) : Calls Tryz.prog 84 #[.slice none n c] w fun e w' => e = .returned (.slice none 0 0) ∧ w = w' := by
 have hq := fun (w : World) => Lib.run_eql_slice_nil (P := Tryz.prog) w 48 43 none n c 0 0 Tryz.underlying48
 go_enter Tryz.func84, Tryz.ntmps84
 go_wp2
 go_ret
 exact ⟨rfl, rfl⟩
set_option maxHeartbeats 400000 in
theorem clone_Rec (A : Option Addr) (c : Nat) (l : List Rec) (Q : Nat → Prop) (w : World) (hr : RecR.Row w Q A l) (hl : l.length ≤ 100000000) :
 Calls Tryz.prog 84 #[.slice A l.length c] w fun e w' => GotOwn RecR w.heap.size 43 (fun g => w.heap.size ≤ g ∨ Q g) l e w' ∧ Below w.heap.size w w' := by
 obtain ⟨i0, hi0, hz0, hz1, hz2⟩ := info_parts rec_info
 have hq := fun (w : World) => Lib.run_eql_slice_nil (P := Tryz.prog) w 48 43 A l.length c 0 0 Tryz.underlying48
 cases A with
 | none =>
   have hn : l = [] := by
    rcases Nat.eq_zero_or_pos l.length with h | h
    ·exact List.eq_nil_of_length_eq_zero h
    ·obtain ⟨_, _, e, _⟩ := hr h; cases e
   subst hn
   refine (cloneNil_Rec 0 c w).mono ?_
   rintro e w' ⟨rfl, rfl⟩
   exact ⟨⟨_, rfl, Rep.Own.nil_⟩, jb _ _⟩
 | some ad =>
   have hr1 : RecR.Row (w.alloc (.cells #[] 43)) (fun g => Q g ∧ g < w.heap.size) (some ad) l := (hr.mono fun g h hl => ⟨h, hl⟩).ext ((jb _ _).al _)
   have ho : RecR.Own (w.alloc (.cells #[] 43)) w.heap.size 43 (fun g => w.heap.size ≤ g ∨ Q g) (.slice (some ⟨w.heap.size, 0, none⟩) 0 0) [] := ⟨[], World.ownsRow_made w #[] 0 (Nat.le_refl _) (by decide) rfl, Rep.flat.nil_⟩
   have HR := jh hr1
   have HL := jh hl
   clear hr1 hr hl
   go_enter Tryz.func84, Tryz.ntmps84
   go_wp2_with (at_builtin; go_loud (refine wpList_append_rep (R := RecR) _ rfl (.tmp 5) (.tmp 6) _ rfl w.heap.size 43 i0 _ 200 Tryz.underlying48 hi0 hz0 hz1 hz2 rfl (.slice (some ⟨w.heap.size, 0, none⟩) 0 0) [] (fun g => w.heap.size ≤ g ∨ Q g) rfl ho _ (some ad) c l rfl HR.out (fun g hg _ => ⟨.inr hg.1, fun h => by have h2 := hg.2; simp [Value.ownBlock] at h; omega⟩) (by have := HL.out; simp [maxLen]; omega) (by have := HL.out; simp; omega) (by simp) ?_); intro v1 w1 ho1 hg1 hat1 hn1 hb1)
   go_ret
   exact ⟨⟨_, rfl, ho1⟩, ((jb _ _).al _).trans hb1⟩
open Go.RowKit
set_option maxHeartbeats 800000 in
theorem text_any (v : Value) (n : Nat) (base : Nat) (s : Str) (w : World) (hv : Bts w base v n) (hl : n + s.size ≤ 90000000) :
 Calls Tryz.prog 208 #[v, .string s] w fun e w' => GotBts w.heap.size (n + s.size + 1) (n + s.size + 10) e w' ∧ Below w.heap.size w w' := by
 obtain ⟨A, c, rfl, _⟩ := hv.form
 obtain ⟨l, hln, hrow⟩ := hv.row
 have C := clone_byte A c l _ w hrow (by omega)
 rw [hln] at C
 have HL := jh hl; clear hl
 have HN := jh hln; clear hln
 go_enter Tryz.func208, Tryz.ntmps208
 go_wp2_with fail
 refine C.mono ?_
 clear C
 rintro e w1 ⟨⟨v1, rfl, ho1⟩, hb1⟩
 have hv1 : Bts w1 w.heap.size v1 n := HN.out ▸ Bts.of_own ho1
 have hz1 := hb1.size
 have hlt1 := hv1.lt
 clear ho1
 go_wp2_with fail
 refine (varint_any _ _ (wrap_u64_bd _).1 (wrap_u64_bd _).2).mono ?_
 rintro e w2 ⟨⟨v2, k, rfl, hv2, hk1, hk2⟩, hb2⟩
 have hv1' := hv1.ext hb2
 have hz2 := hb2.size
 go_wp2_with (at_builtin; first
  | (refine wpList_append_bts rfl (.tmp 6) (.tmp 10) rfl w.heap.size w1.heap.size v1 n rfl hv1' v2 k rfl hv2 (by omega) (fun g hg h => by have := (hlt1 g h.symm).2; omega) (by have := HL.out; omega) (by omega) ?_; intro v3 w3 hv3 hb3 _ _)
  | (refine wpList_append_text rfl (.tmp 11) (.tmp 12) rfl w.heap.size _ (n + k) rfl (by assumption) s rfl (by have := HL.out; omega) (by have := (by assumption : Below w.heap.size w2 _).size; omega) ?_; intro v4 w4 hv4 hb4 _))
 go_ret
 have := HL.out
 exact ⟨⟨_, _, rfl, hv4, by omega, by omega⟩, (((hb1.trans (hb2.mono hz1)).trans hb3)).trans hb4⟩
def U64R : Rep Int where
 size := 1
 rep _ _ cs n := cs = [.int .u64 n] ∧ 0 ≤ n ∧ n < limV 0
 pos := by decide
 len h := by simp [h.1]
 one h := by simp [h.1, Value.oneCell']
 same h _ := h
 mono h _ := h
def Near (w : World) (v r : Value) : Prop := ∀ g, r.ownBlock = some g → v.ownBlock = some g ∨ w.heap.size ≤ g
theorem Near.refl (w : World) (v : Value) : Near w v v := fun _ h => .inl h
theorem Near.step {w w1 : World} {v r r' : Value} (h : Near w v r) (hs : w.heap.size ≤ w1.heap.size) (h1 : r'.ownBlock = r.ownBlock ∨ r'.ownBlock = some w1.heap.size) : Near w v r' := by
 intro g hg
 rcases h1 with e | e
 ·exact h g (e ▸ hg)
 ·rw [e] at hg; injection hg with hg; exact .inr (by omega)
def GotMore (w : World) (v : Value) (B lo hi : Nat) (e : Ending) (w' : World) : Prop := ∃ r n, e = .returned r ∧ Bts w' B r n ∧ lo ≤ n ∧ n ≤ hi ∧ Near w v r
set_option maxHeartbeats 800000 in
theorem nums_any (v : Value) (n base : Nat) (A : Option Addr) (c : Nat) (l : List Int) (Q : Nat → Prop) (w : World) (hv : Bts w base v n) (hr : U64R.Row w Q A l) (hl : n ≤ 90000000) (hl2 : l.length ≤ 100) (hb : base ≤ w.heap.size) (hd : ∀ g, Q g → some g ≠ v.ownBlock) :
 Calls Tryz.prog 207 #[v, .slice A l.length c] w fun e w' => GotMore w v base (n + l.length) (n + 10 * l.length) e w' ∧ Only (fun g => v.ownBlock = some g) w w' := by
 have HL := jh hl; clear hl
 have HR := jh hr; clear hr
 go_enter Tryz.func207, Tryz.ntmps207
 go_wp2
 go_loopw [0, 6, 9] (fun b _ i wr => ∃ (k m : Nat), k ≤ l.length ∧ i = .int .i64 k ∧ n + k ≤ m ∧ m ≤ n + 10 * k ∧ Bts wr base b m ∧ Near w v b ∧ Only (fun g => v.ownBlock = some g) w wr) (fun _ _ i _ => l.length - (intOf i).toNat)
 case atStart => exact ⟨0, n, Nat.zero_le _, rfl, by omega, by omega, hv, Near.refl _ _, Only.refl _ _⟩
 case round =>
  obtain ⟨k, m, hk, rfl, hm1, hm2, hbv, hnr, hbl⟩ := hrel
  have hsz := hbl.size
  by_cases hlt : k < l.length
  ·have hrow := HR.out.same (Same.of_only hbl fun g hq h => hd g hq h.symm) hbl.size
   obtain ⟨b, o, cs, hA, hQ, hbw, ⟨rfl, h0, h1⟩, hc⟩ := hrow.at_ (List.getElem?_eq_getElem hlt)
   have hcc := hc 0 _ rfl
   simp only [U64R, Nat.mul_one, Nat.add_zero] at hcc
   have H1 := jh h1
   clear hc hrow h1
   subst hA
   have hlt' : (k : Int) < l.length := by omega
   have hlt1 := jh hbv.lt
   go_wp2_with fail
   refine (varint_any _ _ h0 H1.out).mono ?_
   rintro e w2 ⟨⟨v2, j, rfl, hv2, hj1, hj2⟩, hb2⟩
   have hbv' := hbv.ext hb2
   have hz2 := hb2.size
   go_wp2_with (at_builtin; refine wpList_append_bts rfl (.tmp 13) (.tmp 15) rfl base wr.heap.size _ m rfl hbv' v2 j rfl hv2 (by omega) (fun g hg h => by have := (hlt1.out g h.symm).2; omega) (by have := HL.out; omega) (by omega) ?_; intro v3 w3 hv3 hb3 hg3 hat3)
   go_round
   case rel =>
    refine ⟨k + 1, m + j, by omega, by go_num, by omega, by omega, hv3, hnr.step (by omega) hat3, ?_⟩
    refine (hbl.tr (Only.of_below hb2)).trans (G := fun g => u0.ownBlock = some g) (Only.grown hg3 (fun g hg => hg)) ?_
    intro g hg h
    rcases hnr g h with h | h
    ·exact h
    ·omega
   case measure => simp [intOf]; omega
  ·go_wp2
   go_ret
   exact ⟨⟨_, m, rfl, hbv, by omega, by omega, hnr⟩, hbl⟩
def withinB (n m : Int) : Bool := decide (0 ≤ n) && decide (n ≤ m)
def soundB (s : Stamp) : Bool := withinB s.wall 1125899906842624 && (withinB s.logic 65535 && withinB s.node 5)
set_option maxHeartbeats 400000 in
theorem within_any (n m : Int) (w : World) : Calls Tryz.prog 269 #[.int .i64 n, .int .i64 m] w fun e w' => e = .returned (.bool (withinB n m)) ∧ w = w' := by
 go_enter Tryz.func269, Tryz.ntmps269
 go_wp2
 all_goals (go_ret; go_light; refine ⟨ret_bool ?_, rfl⟩; unfold withinB; rw [Bool.eq_iff_iff]; simp at *; omega)
def Stamp.val (s : Stamp) : Value := .agg #[.int .i64 s.wall, .int .i64 s.logic, .int .i64 s.node]
attribute [local go_sem] Stamp.val
set_option maxHeartbeats 400000 in
theorem sound_any (s : Stamp) (w : World) : Calls Tryz.prog 220 #[s.val] w fun e w' => e = .returned (.bool (soundB s)) ∧ Below w.heap.size w w' := by
 unfold Stamp.val
 cases h1 : withinB s.wall 1125899906842624 <;> cases h2 : withinB s.logic 65535 <;>
 ·have H1 := jh h1
  have H2 := jh h2
  go_enter Tryz.func220, Tryz.ntmps220
  go_wp2_with (go_at_call 269; refine (within_any _ _ _).mono ?_; rintro e w' ⟨rfl, rfl⟩)
  go_ret
  exact ⟨ret_bool (by unfold soundB; rw [H1.out, H2.out]; rfl), (jb _ _).al _⟩
def GotEnc (b : Bool) (B lo hi : Nat) (e : Ending) (w' : World) : Prop := if b = true then GotBts B lo hi e w' else e = .returned (.slice none 0 0)
theorem GotEnc.yes {B lo hi : Nat} {e : Ending} {w' : World} (h : GotBts B lo hi e w') : GotEnc true B lo hi e w' := by unfold GotEnc; rw [if_pos rfl]; exact h
theorem GotEnc.no {B lo hi : Nat} {e : Ending} {w' : World} (h : e = .returned (.slice none 0 0)) : GotEnc false B lo hi e w' := by unfold GotEnc; rw [if_neg (by simp)]; exact h
theorem GotEnc.out1 {B lo hi : Nat} {e : Ending} {w' : World} (h : GotEnc true B lo hi e w') : GotBts B lo hi e w' := by unfold GotEnc at h; rwa [if_pos rfl] at h
theorem GotEnc.out0 {B lo hi : Nat} {e : Ending} {w' : World} (h : GotEnc false B lo hi e w') : e = .returned (.slice none 0 0) := by unfold GotEnc at h; rwa [if_neg (by simp)] at h
set_option maxHeartbeats 800000 in
theorem encode_any (s : Stamp) (w : World) : Calls Tryz.prog 211 #[s.val] w fun e w' => GotEnc (soundB s) w.heap.size 3 30 e w' ∧ Below w.heap.size w w' := by
 cases hs : soundB s with
 | false =>
   have HS := jh hs
   have C := sound_any s (w.alloc (.cells #[.int .i64 s.wall, .int .i64 s.logic, .int .i64 s.node] 37))
   rw [hs] at C
   unfold Stamp.val at C ⊢
   clear hs
   go_enter Tryz.func211, Tryz.ntmps211
   go_wp2_with fail
   refine C.mono ?_
   clear C
   rintro e w1 ⟨rfl, hb1⟩
   go_wp2
   go_ret
   exact ⟨.no rfl, (((jb _ _).al _).tr hb1)⟩
 | true =>
   have HS := jh hs
   have C := sound_any s (w.alloc (.cells #[.int .i64 s.wall, .int .i64 s.logic, .int .i64 s.node] 37))
   rw [hs] at C
   unfold Stamp.val at C ⊢
   clear hs
   have hix : ∀ k : Nat, k < 3 → ∃ x : Int, ∀ w, (Instr.index 330 (.agg #[.int .i64 s.wall, .int .i64 s.logic, .int .i64 s.node]) (.int .i64 (k : Int))).run Tryz.prog w = .ok (.int .i64 x) w := by
    intro k hk
    match k, hk with
    | 0, _ => exact ⟨s.wall, fun _ => by kernel_rfl⟩
    | 1, _ => exact ⟨s.logic, fun _ => by kernel_rfl⟩
    | 2, _ => exact ⟨s.node, fun _ => by kernel_rfl⟩
   have HIX := jh hix; clear hix
   go_enter Tryz.func211, Tryz.ntmps211
   go_wp2_with fail
   refine C.mono ?_
   clear C
   rintro e w1 ⟨rfl, hb1⟩
   obtain ⟨hc1, hf1⟩ := bcell hb1
   have hz1 := hb1.size
   simp only [World.size_alloc] at hz1
   go_wp2_with fail
   go_loopw [2, 4, 15] (fun b _ i wr => ∃ (k m : Nat), k ≤ 3 ∧ i = .int .i64 k ∧ k ≤ m ∧ m ≤ 10 * k ∧ Bts wr w.heap.size b m ∧ Below w.heap.size w wr) (fun _ _ i _ => 3 - (intOf i).toNat)
   case atStart => exact ⟨0, 0, by omega, rfl, by omega, by omega, Bts.nil_ _ _, ((jb _ _).al _).tr hb1⟩
   case round =>
    clear hc1 hf1 hb1
    obtain ⟨k, m, hk, rfl, hm1, hm2, hbv, hbl⟩ := hrel
    have hsz := hbl.size
    by_cases hlt : k < 3
    ·obtain ⟨x, hx⟩ := HIX.out k hlt
     have hlt' : (k : Int) < 3 := by omega
     have hlt1 := jh hbv.lt
     go_wp2_with fail
     refine (varint_any _ _ (wrap_u64_bd _).1 (wrap_u64_bd _).2).mono ?_
     rintro e w2 ⟨⟨v2, j, rfl, hv2, hj1, hj2⟩, hb2⟩
     have hbv' := hbv.ext hb2
     have hz2 := hb2.size
     go_wp2_with (at_builtin; refine wpList_append_bts rfl (.tmp 18) (.tmp 21) rfl w.heap.size wr.heap.size _ m rfl hbv' v2 j rfl hv2 (by omega) (fun g hg h => by have := (hlt1.out g h.symm).2; omega) (by omega) (by omega) ?_; intro v3 w3 hv3 hb3 hg3 hat3)
     go_round
     case rel => exact ⟨k + 1, m + j, by omega, by go_num, by omega, by omega, hv3, (hbl.tr hb2).trans hb3⟩
     case measure => simp [intOf]; omega
    ·go_wp2
     go_ret
     exact ⟨.yes ⟨_, m, rfl, hbv, by omega, by omega⟩, hbl⟩
open Go.RowKit
theorem StrR_size : StrR.size = 1 := rfl
theorem IntR_size : IntR.size = 1 := rfl
theorem RangeR_size : RangeR.size = 4 := rfl
theorem PutR_size : PutR.size = 3 := rfl
theorem StreamR_size : StreamR.size = 3 := rfl
theorem EventR_size : EventR.size = 7 := rfl
theorem KnownR_size : KnownR.size = 5 := rfl
theorem RecR_size : RecR.size = 18 := rfl
def idxI {α : Type} (p : α → Bool) (l : List α) : Int := match l.findIdx? p with | some i => (i : Int) | none => -1
theorem idxI_some {α : Type} {p : α → Bool} {l : List α} {k : Nat} {a : α} (hk : l[k]? = some a) (ha : p a = true) (hb : ∀ (j : Nat) (b : α), j < k → l[j]? = some b → p b = false) : idxI p l = k := by
 have hl := (List.getElem?_eq_some_iff.1 hk).1
 have he := (List.getElem?_eq_some_iff.1 hk).2
 have : l.findIdx? p = some k := by
  rw [List.findIdx?_eq_some_iff_getElem]
  refine ⟨hl, by rw [he]; exact ha, fun j hj => ?_⟩
  have := hb j _ hj (List.getElem?_eq_getElem (by omega))
  simp [this]
 unfold idxI; rw [this]
theorem idxI_none {α : Type} {p : α → Bool} {l : List α} (hb : ∀ (j : Nat) (b : α), l[j]? = some b → p b = false) : idxI p l = -1 := by
 have : l.findIdx? p = none := by
  rw [List.findIdx?_eq_none_iff]
  intro x hx
  obtain ⟨j, hj⟩ := List.getElem?_of_mem hx
  exact hb j x hj
 unfold idxI; rw [this]
theorem idxI_bd {α : Type} (p : α → Bool) (l : List α) : -1 ≤ idxI p l ∧ idxI p l < l.length := by
 unfold idxI
 cases h : l.findIdx? p with
 | none => simp; omega
 | some i =>
   have := List.findIdx?_eq_some_iff_getElem.1 h
   obtain ⟨hi, _⟩ := this
   simp; omega
theorem idxI_any {α : Type} (p : α → Bool) (l : List α) : decide (0 ≤ idxI p l) = l.any p := by
 unfold idxI
 cases h : l.findIdx? p with
 | none =>
   rw [List.findIdx?_eq_none_iff] at h
   rw [Bool.eq_iff_iff]
   simp
   exact h
 | some i =>
   obtain ⟨hi, h1, _⟩ := List.findIdx?_eq_some_iff_getElem.1 h
   rw [Bool.eq_iff_iff]
   simp
   exact ⟨_, List.getElem_mem hi, h1⟩
def Tells {α : Type} (R : Rep α) (V : List Value → Value) (F : FuncId) (caps : List Value) (P : Nat → Prop) (p : α → Bool) (l : List α) (w : World) : Prop :=
 ∀ (a : α) (cs : List Value) (W : World), a ∈ l → R.rep W P cs a → Below w.heap.size w W → Calls Tryz.prog F (V cs :: caps).toArray W fun e W' => e = .returned (.bool (p a)) ∧ Below W.heap.size W W'
def aggV (cs : List Value) : Value := .agg cs.toArray
def oneV (cs : List Value) : Value := cs.headD undef
set_option maxHeartbeats 800000 in
theorem idxF_Range (F : FuncId) (caps : List Value) (p : Range → Bool) (hent : ∀ args w, (callFunc F args).run Tryz.prog w = .ok (.enter F args) w) (A : Option Addr) (c : Nat) (l : List Range) (P : Nat → Prop) (w : World) (hr : RangeR.Row w P A l) (hl : l.length ≤ 9223372036854775807) (hF : Tells RangeR aggV F caps P p l w) :
 Calls Tryz.prog 128 #[.slice A l.length c, .func (.func F) #[] caps.toArray] w fun e w' => e = .returned (.int .i64 (idxI p l)) ∧ Below w.heap.size w w' := by
 have HF := jh hF; clear hF
 have HR := jh hr; clear hr
 go_enter Tryz.func128, Tryz.ntmps128
 go_wp2
 go_loopw [5, 8] (fun _ i wr => ∃ k : Nat, k ≤ l.length ∧ i = .int .i64 k ∧ (∀ (j : Nat) (b : Range), j < k → l[j]? = some b → p b = false) ∧ Below w.heap.size w wr) (fun _ i _ => l.length - (intOf i).toNat)
 case atStart => exact ⟨0, Nat.zero_le _, rfl, fun j b hj => absurd hj (by omega), jb _ _⟩
 case round =>
  obtain ⟨k, hk, rfl, hno, hbl⟩ := hrel
  have HN := jh hno; clear hno
  by_cases hlt : k < l.length
  ·have hlk := List.getElem?_eq_getElem hlt
   generalize l[k] = a at hlk
   obtain ⟨b, o, cs, rfl, hP, hbw, hrep, hcs⟩ := (HR.out.ext hbl).at_ hlk
   have C := HF.out a cs wr (List.mem_of_getElem? hlk) hrep hbl
   have HK := jh hlk; clear hlk
   have hlt' : (k : Int) < l.length := by omega
   obtain ⟨rfl, _⟩ := range_rep.1 hrep
   have c0 := hcs 0 _ rfl; have c1 := hcs 1 _ rfl; have c2 := hcs 2 _ rfl; have c3 := hcs 3 _ rfl; simp only [RangeR_size, Nat.add_zero] at c0 c1 c2 c3
   dsimp only [aggV, Range.cells] at C
   clear hcs
   try clear hrep
   have HC := jh C; clear C
   go_wp2_with fail
   refine HC.out.mono ?_
   cases hp : p a with
   | true =>
     have HP := jh hp; clear hp
     rintro e w1 ⟨rfl, hb1⟩
     go_wp2
     go_ret
     exact ⟨ret_int (idxI_some HK.out HP.out HN.out).symm, hbl.tr hb1⟩
   | false =>
     have HP := jh hp; clear hp
     rintro e w1 ⟨rfl, hb1⟩
     go_wp2
     go_round
     case rel =>
      refine ⟨k + 1, by omega, by go_num, fun j x hj hx => ?_, hbl.tr hb1⟩
      by_cases hjk : j < k
      ·exact HN.out j x hjk hx
      ·have : j = k := by omega
       subst this
       have h1 := HK.out
       rw [hx] at h1
       injection h1 with h1
       rw [h1]; exact HP.out
     case measure => simp [intOf]; omega
  ·go_wp2
   go_ret
   refine ⟨ret_int (idxI_none fun j x hx => HN.out j x ?_ hx).symm, hbl⟩
   have := (List.getElem?_eq_some_iff.1 hx).1
   omega
set_option maxHeartbeats 800000 in
theorem idxF_string (F : FuncId) (caps : List Value) (p : Str → Bool) (hent : ∀ args w, (callFunc F args).run Tryz.prog w = .ok (.enter F args) w) (A : Option Addr) (c : Nat) (l : List Str) (P : Nat → Prop) (w : World) (hr : StrR.Row w P A l) (hl : l.length ≤ 9223372036854775807) (hF : Tells StrR oneV F caps P p l w) :
 Calls Tryz.prog 278 #[.slice A l.length c, .func (.func F) #[] caps.toArray] w fun e w' => e = .returned (.int .i64 (idxI p l)) ∧ Below w.heap.size w w' := by
 have HF := jh hF; clear hF
 have HR := jh hr; clear hr
 go_enter Tryz.func278, Tryz.ntmps278
 go_wp2
 go_loopw [5, 8] (fun _ i wr => ∃ k : Nat, k ≤ l.length ∧ i = .int .i64 k ∧ (∀ (j : Nat) (b : Str), j < k → l[j]? = some b → p b = false) ∧ Below w.heap.size w wr) (fun _ i _ => l.length - (intOf i).toNat)
 case atStart => exact ⟨0, Nat.zero_le _, rfl, fun j b hj => absurd hj (by omega), jb _ _⟩
 case round =>
  obtain ⟨k, hk, rfl, hno, hbl⟩ := hrel
  have HN := jh hno; clear hno
  by_cases hlt : k < l.length
  ·have hlk := List.getElem?_eq_getElem hlt
   generalize l[k] = a at hlk
   obtain ⟨b, o, cs, rfl, hP, hbw, hrep, hcs⟩ := (HR.out.ext hbl).at_ hlk
   have C := HF.out a cs wr (List.mem_of_getElem? hlk) hrep hbl
   have HK := jh hlk; clear hlk
   have hlt' : (k : Int) < l.length := by omega
   obtain ⟨rfl, _⟩ := hrep
   have c0 := hcs 0 _ rfl; simp only [StrR_size, Nat.add_zero, Nat.mul_one] at c0
   dsimp only [oneV, List.headD_cons] at C
   clear hcs
   try clear hrep
   have HC := jh C; clear C
   go_wp2_with fail
   refine HC.out.mono ?_
   cases hp : p a with
   | true =>
     have HP := jh hp; clear hp
     rintro e w1 ⟨rfl, hb1⟩
     go_wp2
     go_ret
     exact ⟨ret_int (idxI_some HK.out HP.out HN.out).symm, hbl.tr hb1⟩
   | false =>
     have HP := jh hp; clear hp
     rintro e w1 ⟨rfl, hb1⟩
     go_wp2
     go_round
     case rel =>
      refine ⟨k + 1, by omega, by go_num, fun j x hj hx => ?_, hbl.tr hb1⟩
      by_cases hjk : j < k
      ·exact HN.out j x hjk hx
      ·have : j = k := by omega
       subst this
       have h1 := HK.out
       rw [hx] at h1
       injection h1 with h1
       rw [h1]; exact HP.out
     case measure => simp [intOf]; omega
  ·go_wp2
   go_ret
   refine ⟨ret_int (idxI_none fun j x hx => HN.out j x ?_ hx).symm, hbl⟩
   have := (List.getElem?_eq_some_iff.1 hx).1
   omega
set_option maxHeartbeats 800000 in
theorem idxF_int (F : FuncId) (caps : List Value) (p : Int → Bool) (hent : ∀ args w, (callFunc F args).run Tryz.prog w = .ok (.enter F args) w) (A : Option Addr) (c : Nat) (l : List Int) (P : Nat → Prop) (w : World) (hr : IntR.Row w P A l) (hl : l.length ≤ 9223372036854775807) (hF : Tells IntR oneV F caps P p l w) :
 Calls Tryz.prog 230 #[.slice A l.length c, .func (.func F) #[] caps.toArray] w fun e w' => e = .returned (.int .i64 (idxI p l)) ∧ Below w.heap.size w w' := by
 have HF := jh hF; clear hF
 have HR := jh hr; clear hr
 go_enter Tryz.func230, Tryz.ntmps230
 go_wp2
 go_loopw [5, 8] (fun _ i wr => ∃ k : Nat, k ≤ l.length ∧ i = .int .i64 k ∧ (∀ (j : Nat) (b : Int), j < k → l[j]? = some b → p b = false) ∧ Below w.heap.size w wr) (fun _ i _ => l.length - (intOf i).toNat)
 case atStart => exact ⟨0, Nat.zero_le _, rfl, fun j b hj => absurd hj (by omega), jb _ _⟩
 case round =>
  obtain ⟨k, hk, rfl, hno, hbl⟩ := hrel
  have HN := jh hno; clear hno
  by_cases hlt : k < l.length
  ·have hlk := List.getElem?_eq_getElem hlt
   generalize l[k] = a at hlk
   obtain ⟨b, o, cs, rfl, hP, hbw, hrep, hcs⟩ := (HR.out.ext hbl).at_ hlk
   have C := HF.out a cs wr (List.mem_of_getElem? hlk) hrep hbl
   have HK := jh hlk; clear hlk
   have hlt' : (k : Int) < l.length := by omega
   obtain ⟨rfl, _⟩ := hrep
   have c0 := hcs 0 _ rfl; simp only [IntR_size, Nat.add_zero, Nat.mul_one] at c0
   dsimp only [oneV, List.headD_cons] at C
   clear hcs
   try clear hrep
   have HC := jh C; clear C
   go_wp2_with fail
   refine HC.out.mono ?_
   cases hp : p a with
   | true =>
     have HP := jh hp; clear hp
     rintro e w1 ⟨rfl, hb1⟩
     go_wp2
     go_ret
     exact ⟨ret_int (idxI_some HK.out HP.out HN.out).symm, hbl.tr hb1⟩
   | false =>
     have HP := jh hp; clear hp
     rintro e w1 ⟨rfl, hb1⟩
     go_wp2
     go_round
     case rel =>
      refine ⟨k + 1, by omega, by go_num, fun j x hj hx => ?_, hbl.tr hb1⟩
      by_cases hjk : j < k
      ·exact HN.out j x hjk hx
      ·have : j = k := by omega
       subst this
       have h1 := HK.out
       rw [hx] at h1
       injection h1 with h1
       rw [h1]; exact HP.out
     case measure => simp [intOf]; omega
  ·go_wp2
   go_ret
   refine ⟨ret_int (idxI_none fun j x hx => HN.out j x ?_ hx).symm, hbl⟩
   have := (List.getElem?_eq_some_iff.1 hx).1
   omega
set_option maxHeartbeats 800000 in
theorem idxF_Put (F : FuncId) (caps : List Value) (p : Put → Bool) (hent : ∀ args w, (callFunc F args).run Tryz.prog w = .ok (.enter F args) w) (A : Option Addr) (c : Nat) (l : List Put) (P : Nat → Prop) (w : World) (hr : PutR.Row w P A l) (hl : l.length ≤ 9223372036854775807) (hF : Tells PutR aggV F caps P p l w) :
 Calls Tryz.prog 195 #[.slice A l.length c, .func (.func F) #[] caps.toArray] w fun e w' => e = .returned (.int .i64 (idxI p l)) ∧ Below w.heap.size w w' := by
 have HF := jh hF; clear hF
 have HR := jh hr; clear hr
 go_enter Tryz.func195, Tryz.ntmps195
 go_wp2
 go_loopw [5, 8] (fun _ i wr => ∃ k : Nat, k ≤ l.length ∧ i = .int .i64 k ∧ (∀ (j : Nat) (b : Put), j < k → l[j]? = some b → p b = false) ∧ Below w.heap.size w wr) (fun _ i _ => l.length - (intOf i).toNat)
 case atStart => exact ⟨0, Nat.zero_le _, rfl, fun j b hj => absurd hj (by omega), jb _ _⟩
 case round =>
  obtain ⟨k, hk, rfl, hno, hbl⟩ := hrel
  have HN := jh hno; clear hno
  by_cases hlt : k < l.length
  ·have hlk := List.getElem?_eq_getElem hlt
   generalize l[k] = a at hlk
   obtain ⟨b, o, cs, rfl, hP, hbw, hrep, hcs⟩ := (HR.out.ext hbl).at_ hlk
   have C := HF.out a cs wr (List.mem_of_getElem? hlk) hrep hbl
   have HK := jh hlk; clear hlk
   have hlt' : (k : Int) < l.length := by omega
   obtain ⟨A2, c2, rfl, _⟩ := put_rep.1 hrep
   have c0 := hcs 0 _ rfl; have c1 := hcs 1 _ rfl; have c2 := hcs 2 _ rfl; simp only [PutR_size, Nat.add_zero] at c0 c1 c2
   dsimp only [aggV] at C
   clear hcs
   try clear hrep
   have HC := jh C; clear C
   go_wp2_with fail
   refine HC.out.mono ?_
   cases hp : p a with
   | true =>
     have HP := jh hp; clear hp
     rintro e w1 ⟨rfl, hb1⟩
     go_wp2
     go_ret
     exact ⟨ret_int (idxI_some HK.out HP.out HN.out).symm, hbl.tr hb1⟩
   | false =>
     have HP := jh hp; clear hp
     rintro e w1 ⟨rfl, hb1⟩
     go_wp2
     go_round
     case rel =>
      refine ⟨k + 1, by omega, by go_num, fun j x hj hx => ?_, hbl.tr hb1⟩
      by_cases hjk : j < k
      ·exact HN.out j x hjk hx
      ·have : j = k := by omega
       subst this
       have h1 := HK.out
       rw [hx] at h1
       injection h1 with h1
       rw [h1]; exact HP.out
     case measure => simp [intOf]; omega
  ·go_wp2
   go_ret
   refine ⟨ret_int (idxI_none fun j x hx => HN.out j x ?_ hx).symm, hbl⟩
   have := (List.getElem?_eq_some_iff.1 hx).1
   omega
set_option maxHeartbeats 800000 in
theorem idxF_Stream (F : FuncId) (caps : List Value) (p : Stream → Bool) (hent : ∀ args w, (callFunc F args).run Tryz.prog w = .ok (.enter F args) w) (A : Option Addr) (c : Nat) (l : List Stream) (P : Nat → Prop) (w : World) (hr : StreamR.Row w P A l) (hl : l.length ≤ 9223372036854775807) (hF : Tells StreamR aggV F caps P p l w) :
 Calls Tryz.prog 236 #[.slice A l.length c, .func (.func F) #[] caps.toArray] w fun e w' => e = .returned (.int .i64 (idxI p l)) ∧ Below w.heap.size w w' := by
 have HF := jh hF; clear hF
 have HR := jh hr; clear hr
 go_enter Tryz.func236, Tryz.ntmps236
 go_wp2
 go_loopw [5, 8] (fun _ i wr => ∃ k : Nat, k ≤ l.length ∧ i = .int .i64 k ∧ (∀ (j : Nat) (b : Stream), j < k → l[j]? = some b → p b = false) ∧ Below w.heap.size w wr) (fun _ i _ => l.length - (intOf i).toNat)
 case atStart => exact ⟨0, Nat.zero_le _, rfl, fun j b hj => absurd hj (by omega), jb _ _⟩
 case round =>
  obtain ⟨k, hk, rfl, hno, hbl⟩ := hrel
  have HN := jh hno; clear hno
  by_cases hlt : k < l.length
  ·have hlk := List.getElem?_eq_getElem hlt
   generalize l[k] = a at hlk
   obtain ⟨b, o, cs, rfl, hP, hbw, hrep, hcs⟩ := (HR.out.ext hbl).at_ hlk
   have C := HF.out a cs wr (List.mem_of_getElem? hlk) hrep hbl
   have HK := jh hlk; clear hlk
   have hlt' : (k : Int) < l.length := by omega
   obtain ⟨A2, c2, A3, c3, rfl, _⟩ := stream_rep.1 hrep
   have c0 := hcs 0 _ rfl; have c1 := hcs 1 _ rfl; have c2 := hcs 2 _ rfl; simp only [StreamR_size, Nat.add_zero] at c0 c1 c2
   dsimp only [aggV] at C
   clear hcs
   try clear hrep
   have HC := jh C; clear C
   go_wp2_with fail
   refine HC.out.mono ?_
   cases hp : p a with
   | true =>
     have HP := jh hp; clear hp
     rintro e w1 ⟨rfl, hb1⟩
     go_wp2
     go_ret
     exact ⟨ret_int (idxI_some HK.out HP.out HN.out).symm, hbl.tr hb1⟩
   | false =>
     have HP := jh hp; clear hp
     rintro e w1 ⟨rfl, hb1⟩
     go_wp2
     go_round
     case rel =>
      refine ⟨k + 1, by omega, by go_num, fun j x hj hx => ?_, hbl.tr hb1⟩
      by_cases hjk : j < k
      ·exact HN.out j x hjk hx
      ·have : j = k := by omega
       subst this
       have h1 := HK.out
       rw [hx] at h1
       injection h1 with h1
       rw [h1]; exact HP.out
     case measure => simp [intOf]; omega
  ·go_wp2
   go_ret
   refine ⟨ret_int (idxI_none fun j x hx => HN.out j x ?_ hx).symm, hbl⟩
   have := (List.getElem?_eq_some_iff.1 hx).1
   omega
set_option maxHeartbeats 800000 in
theorem hasF_int (F : FuncId) (caps : List Value) (p : Int → Bool) (hent : ∀ args w, (callFunc F args).run Tryz.prog w = .ok (.enter F args) w) (A : Option Addr) (c : Nat) (l : List Int) (P : Nat → Prop) (w : World) (hr : IntR.Row w P A l) (hl : l.length ≤ 9223372036854775807) (hF : Tells IntR oneV F caps P p l w) :
 Calls Tryz.prog 150 #[.slice A l.length c, .func (.func F) #[] caps.toArray] w fun e w' => e = .returned (.bool (l.any p)) ∧ Below w.heap.size w w' := by
 have C := idxF_int F caps p hent A c l P w hr hl hF
 clear hF hr
 go_enter Tryz.func150, Tryz.ntmps150
 go_wp2_with fail
 refine C.mono ?_
 clear C
 rintro e w1 ⟨rfl, hb1⟩
 have hd := jh (idxI_any p l)
 go_wp2
 go_ret
 exact ⟨ret_bool hd.out, hb1⟩
set_option maxHeartbeats 800000 in
theorem hasF_Put (F : FuncId) (caps : List Value) (p : Put → Bool) (hent : ∀ args w, (callFunc F args).run Tryz.prog w = .ok (.enter F args) w) (A : Option Addr) (c : Nat) (l : List Put) (P : Nat → Prop) (w : World) (hr : PutR.Row w P A l) (hl : l.length ≤ 9223372036854775807) (hF : Tells PutR aggV F caps P p l w) :
 Calls Tryz.prog 109 #[.slice A l.length c, .func (.func F) #[] caps.toArray] w fun e w' => e = .returned (.bool (l.any p)) ∧ Below w.heap.size w w' := by
 have C := idxF_Put F caps p hent A c l P w hr hl hF
 clear hF hr
 go_enter Tryz.func109, Tryz.ntmps109
 go_wp2_with fail
 refine C.mono ?_
 clear C
 rintro e w1 ⟨rfl, hb1⟩
 have hd := jh (idxI_any p l)
 go_wp2
 go_ret
 exact ⟨ret_bool hd.out, hb1⟩
set_option maxHeartbeats 800000 in
theorem hasF_Stream (F : FuncId) (caps : List Value) (p : Stream → Bool) (hent : ∀ args w, (callFunc F args).run Tryz.prog w = .ok (.enter F args) w) (A : Option Addr) (c : Nat) (l : List Stream) (P : Nat → Prop) (w : World) (hr : StreamR.Row w P A l) (hl : l.length ≤ 9223372036854775807) (hF : Tells StreamR aggV F caps P p l w) :
 Calls Tryz.prog 161 #[.slice A l.length c, .func (.func F) #[] caps.toArray] w fun e w' => e = .returned (.bool (l.any p)) ∧ Below w.heap.size w w' := by
 have C := idxF_Stream F caps p hent A c l P w hr hl hF
 clear hF hr
 go_enter Tryz.func161, Tryz.ntmps161
 go_wp2_with fail
 refine C.mono ?_
 clear C
 rintro e w1 ⟨rfl, hb1⟩
 have hd := jh (idxI_any p l)
 go_wp2
 go_ret
 exact ⟨ret_bool hd.out, hb1⟩
open Go.RowKit
def assocOf {κ : Type} [DecidableEq κ] (k : κ) : List (κ × Value) → Option Value
 | [] => none
 | (x, v) :: l => if k = x then some v else assocOf k l
def assocAt {κ : Type} [DecidableEq κ] (k : κ) : List (κ × Value) → Nat → Option (Nat × Value)
 | [], _ => none
 | (x, v) :: l, i => if k = x then some (i, v) else assocAt k l (i + 1)
def assocPut {κ : Type} [DecidableEq κ] (k : κ) (v : Value) : List (κ × Value) → List (κ × Value)
 | [] => [(k, v)]
 | (x, u) :: l => if k = x then (x, v) :: l else (x, u) :: assocPut k v l
def assocDel {κ : Type} [DecidableEq κ] (k : κ) : List (κ × Value) → List (κ × Value)
 | [] => []
 | (x, u) :: l => if k = x then l else (x, u) :: assocDel k l
structure KeyOk {κ : Type} [DecidableEq κ] (P : Program) (kt : TypeId) (enc : κ → Value) : Prop where
 check : ∀ (b : Bool) (k : κ) (w : World), (Instr.checkKey b 10000 kt (enc k)).run P w = .ok () w
 find : ∀ (k : κ) (es : List MapEntry) (ps : List (κ × Value)) (w : World), es.map (fun e => (e.key, e.val)) = ps.map (fun p => (enc p.1, p.2)) → (Instr.findKey kt (enc k) es).run P w = .ok (assocAt k ps 0) w
 stays : ∀ (k : κ) (w : World), (Instr.keyThatStays (enc k) (enc k)).run P w = .ok (enc k) w
theorem beq_str (a b : ByteArray) : (a == b) = decide (a = b) := by
 obtain ⟨⟨x⟩⟩ := a
 obtain ⟨⟨y⟩⟩ := b
 show ((⟨x⟩ : Array UInt8) == ⟨y⟩) = _
 rw [Bool.eq_iff_iff]; simp
theorem map_erase {α β : Type} (f : α → β) (l : List α) (i : Nat) : (l.eraseIdx i).map f = (l.map f).eraseIdx i := by
 induction l generalizing i with
 | nil => rfl
 | cons x l ih => cases i with
   | zero => rfl
   | succ i => simp [ih]
theorem str_key {P : Program} {kt : TypeId} (h : P.underlying kt = some .string) : KeyOk P kt (fun s : ByteArray => Value.string s) where
 check b k w := by rw [Instr.checkKey]; simp [run_underlying h]
 find k es ps w he := by
  have key : ∀ (es : List MapEntry) (ps : List (ByteArray × Value)) (i : Nat), es.map (fun e => (e.key, e.val)) = ps.map (fun p => (Value.string p.1, p.2)) → Instr.findNow .string (.string k) es i = some (assocAt k ps i) := by
   intro es
   induction es with
   | nil => intro ps i h; cases ps with
     | nil => rfl
     | cons p ps => simp at h
   | cons e es ih => intro ps i h; cases ps with
     | nil => simp at h
     | cons p ps =>
       simp only [List.map_cons, List.cons.injEq, Prod.mk.injEq] at h
       obtain ⟨⟨h1, h2⟩, h3⟩ := h
       simp only [Instr.findNow, h1, Instr.sameNow, assocAt, beq_str]
       by_cases hk : k = p.1
       ·simp [hk, h2]
       ·simp [hk, ih ps (i + 1) h3]
  simp [Instr.findKey, run_underlying h, key es ps 0 he]
 stays k w := by simp [Instr.keyThatStays, Instr.sameBits, beq_str]
theorem assocAt_none {κ : Type} [DecidableEq κ] (k : κ) (l : List (κ × Value)) (i : Nat) : assocAt k l i = none ↔ assocOf k l = none := by
 induction l generalizing i with
 | nil => simp [assocAt, assocOf]
 | cons p l ih => simp only [assocAt, assocOf]; split <;> simp [ih]
theorem assocAt_some {κ : Type} [DecidableEq κ] {k : κ} {l : List (κ × Value)} {i j : Nat} {v : Value} (h : assocAt k l i = some (j, v)) : assocOf k l = some v ∧ i ≤ j ∧ l[j - i]? = some (k, v) := by
 induction l generalizing i with
 | nil => simp [assocAt] at h
 | cons p l ih =>
   simp only [assocAt] at h
   simp only [assocOf]
   split at h
   ·rename_i hk; rw [if_pos hk]; simp at h; obtain ⟨rfl, rfl⟩ := h; subst hk; simp
   ·rename_i hk
    rw [if_neg hk]
    obtain ⟨h1, h2, h3⟩ := ih h
    refine ⟨h1, by omega, ?_⟩
    rw [show j - i = (j - (i + 1)) + 1 from by omega, List.getElem?_cons_succ]; exact h3
theorem assocPut_at {κ : Type} [DecidableEq κ] {k : κ} {l : List (κ × Value)} {i j : Nat} {v u : Value} (h : assocAt k l i = some (j, u)) : assocPut k v l = l.set (j - i) (k, v) := by
 induction l generalizing i with
 | nil => simp [assocAt] at h
 | cons p l ih =>
   simp only [assocAt] at h
   simp only [assocPut]
   split at h
   ·rename_i hk; rw [if_pos hk]; simp at h; obtain ⟨rfl, rfl⟩ := h; subst hk; simp
   ·rename_i hk
    rw [if_neg hk]
    have h2 := (assocAt_some h).2.1
    rw [show j - i = (j - (i + 1)) + 1 from by omega, List.set_cons_succ, ih h]
theorem assocPut_new {κ : Type} [DecidableEq κ] {k : κ} {l : List (κ × Value)} {v : Value} (h : assocOf k l = none) : assocPut k v l = l ++ [(k, v)] := by
 induction l with
 | nil => rfl
 | cons p l ih =>
   simp only [assocOf] at h
   split at h
   ·cases h
   ·rename_i hk; simp [assocPut, hk, ih h]
theorem assocDel_at {κ : Type} [DecidableEq κ] {k : κ} {l : List (κ × Value)} {i j : Nat} {u : Value} (h : assocAt k l i = some (j, u)) : assocDel k l = l.eraseIdx (j - i) := by
 induction l generalizing i with
 | nil => simp [assocAt] at h
 | cons p l ih =>
   simp only [assocAt] at h
   simp only [assocDel]
   split at h
   ·rename_i hk; rw [if_pos hk]; simp at h; obtain ⟨rfl, rfl⟩ := h; simp
   ·rename_i hk
    rw [if_neg hk]
    have h2 := (assocAt_some h).2.1
    rw [show j - i = (j - (i + 1)) + 1 from by omega, List.eraseIdx_cons_succ, ih h]
theorem assocDel_none {κ : Type} [DecidableEq κ] {k : κ} {l : List (κ × Value)} (h : assocOf k l = none) : assocDel k l = l := by
 induction l with
 | nil => rfl
 | cons p l ih =>
   simp only [assocOf] at h
   split at h
   ·cases h
   ·rename_i hk; simp [assocDel, hk, ih h]
section
variable {κ : Type} {P : Program} {kt : TypeId} {enc : κ → Value} {w w' : World} {m : Nat} {ps : List (κ × Value)}
def MapAt (enc : κ → Value) (w : World) (m : Nat) (ps : List (κ × Value)) : Prop :=
 ∃ (es : Array MapEntry) (clk : Nat), w.heap[m]? = some (.map es clk) ∧ es.toList.map (fun e => (e.key, e.val)) = ps.map (fun p => (enc p.1, p.2)) ∧ (es.toList.map (·.born)).Pairwise (· < ·) ∧ ∀ e ∈ es.toList, e.born < clk
theorem MapAt.lt (h : MapAt enc w m ps) : m < w.heap.size := by
 obtain ⟨es, clk, h, _⟩ := h
 exact (Array.getElem?_eq_some_iff.1 h).1
theorem MapAt.block (h : MapAt enc w m ps) (hs : w'.heap[m]? = w.heap[m]?) : MapAt enc w' m ps := by
 obtain ⟨es, clk, h, r⟩ := h
 exact ⟨es, clk, hs.trans h, r⟩
theorem MapAt.ext (h : MapAt enc w m ps) (hb : Below w.heap.size w w') : MapAt enc w' m ps := h.block (hb.block m h.lt)
theorem MapAt.only {F : Nat → Prop} (h : MapAt enc w m ps) (hb : Only F w w') (hn : ¬ F m) : MapAt enc w' m ps := h.block (hb.block m h.lt hn)
theorem MapAt.same {F : Nat → Prop} (h : MapAt enc w m ps) (hb : Same F w w') (hn : F m) : MapAt enc w' m ps := h.block (hb m hn h.lt)
theorem MapAt.drewN (h : MapAt enc w m ps) (n : Nat) : MapAt enc (w.drewN n) m ps := h
theorem MapAt.alloc (h : MapAt enc w m ps) (o : Obj) : MapAt enc (w.alloc o) m ps := h.block (Below.heap_alloc w o m h.lt)
theorem MapAt.new (w : World) : MapAt enc (w.alloc (.map #[] 0)) w.heap.size [] := ⟨#[], 0, heap_alloc_new w _, rfl, by simp, by simp⟩
theorem MapAt.not_cells (h : MapAt enc w m ps) {t : TypeId} {cs : List Value} {g : Nat} (hb : Blk w g t cs) : m ≠ g := by
 rintro rfl
 obtain ⟨es, clk, h, _⟩ := h
 unfold Blk at hb
 rw [h] at hb
 cases hb
theorem MapAt.cells? (h : MapAt enc w m ps) (o : Nat) : w.cell? ⟨m, o, none⟩ = none := by
 obtain ⟨es, clk, h, _⟩ := h
 simp [World.cell?, h]
variable [DecidableEq κ]
theorem run_getMap {es : Array MapEntry} {clk : Nat} (h : w.heap[m]? = some (.map es clk)) : (getObj m).run P w = .ok (.map es clk) w := by
 simp [getObj, Sem.run, h]
theorem run_lookup_map (K : KeyOk P kt enc) {t e : TypeId} (ht : P.underlying t = some (.map kt e)) (h : MapAt enc w m ps) (k : κ) (z : Value) (hz : (zeroValue e).run P w = .ok z w) (c : Bool) :
 (Instr.lookup t (.map (some m)) (enc k) c).run P w = .ok (if c then .tuple #[(assocOf k ps).getD z, .bool (assocOf k ps).isSome] else (assocOf k ps).getD z) w := by
 obtain ⟨es, clk, hh, he, _⟩ := h
 have hf := K.find k es.toList ps w he
 simp only [Instr.lookup, Sem.run_bind, run_underlying ht, Result.andThen_ok, run_getMap hh, Sem.run_pure, K.check, hf]
 cases ha : assocAt k ps 0 with
 | none =>
   have := (assocAt_none k ps 0).1 ha
   simp [hz, this]
 | some q =>
   obtain ⟨j, v⟩ := q
   have := (assocAt_some ha).1
   simp [this]
theorem run_lookup_nil (K : KeyOk P kt enc) {t e : TypeId} (ht : P.underlying t = some (.map kt e)) (k : κ) (z : Value) (hz : (zeroValue e).run P w = .ok z w) (c : Bool) :
 (Instr.lookup t (.map none) (enc k) c).run P w = .ok (if c then .tuple #[z, .bool false] else z) w := by
 have hf := K.find k [] [] w rfl
 simp only [Instr.lookup, Sem.run_bind, run_underlying ht, Result.andThen_ok, Sem.run_pure, K.check, hf, assocAt]
 simp [hz]
def setMap (w : World) (m : Nat) (es : Array MapEntry) (clk : Nat) : World := { w with heap := w.heap.setIfInBounds m (.map es clk) }
theorem setMap_only (w : World) (m : Nat) (es : Array MapEntry) (clk : Nat) : Only (· = m) w (setMap w m es clk) :=
 ⟨rfl, rfl, rfl, by simp [setMap], fun g _ hn => by simp only [setMap, Array.getElem?_setIfInBounds]; rw [if_neg (fun h => hn h.symm)]⟩
theorem setMap_at {es : Array MapEntry} {clk : Nat} (hm : m < w.heap.size) : (setMap w m es clk).heap[m]? = some (.map es clk) := by
 simp [setMap, hm]
theorem run_setMap {es es' : Array MapEntry} {clk clk' : Nat} (h : w.heap[m]? = some (.map es clk)) : (setObj m (.map es' clk')).run P w = .ok () (setMap w m es' clk') := by
 simp [setObj, Sem.run, h, setMap]
theorem pair_len {κ : Type} {enc : κ → Value} {ps : List (κ × Value)} {es : Array MapEntry} (he : es.toList.map (fun e => (e.key, e.val)) = ps.map (fun p => (enc p.1, p.2))) : es.size = ps.length := by
 have := congrArg List.length he
 simpa using this
theorem map_put {es : Array MapEntry} {clk : Nat} (hh : w.heap[m]? = some (.map es clk)) (he : es.toList.map (fun e => (e.key, e.val)) = ps.map (fun p => (enc p.1, p.2))) (hp : (es.toList.map (·.born)).Pairwise (· < ·)) (hc : ∀ e ∈ es.toList, e.born < clk) (k : κ) (v : Value) :
 (∀ j u, assocAt k ps 0 = some (j, u) → MapAt enc (setMap w m (es.modify j fun e => { e with key := enc k, val := v }) clk) m (assocPut k v ps)) ∧
 (assocAt k ps 0 = none → MapAt enc (setMap w m (es.push { key := enc k, val := v, born := clk }) (clk + 1)) m (assocPut k v ps)) := by
 have hm := (Array.getElem?_eq_some_iff.1 hh).1
 refine ⟨fun j u ha => ⟨_, _, setMap_at hm, ?_, ?_, ?_⟩, fun ha => ⟨_, _, setMap_at hm, ?_, ?_, ?_⟩⟩
 ·rw [assocPut_at ha, Nat.sub_zero, List.map_set, ← he]
  apply List.ext_getElem?
  intro i
  simp only [List.getElem?_map, Array.getElem?_toList, Array.getElem?_modify, List.getElem?_set]
  by_cases hij : j = i
  ·subst hij
   have hj : j < es.size := by
    have := (List.getElem?_eq_some_iff.1 (assocAt_some ha).2.2).1
    rw [pair_len he]; simpa using this
   simp [hj]
  ·simp [hij]
 ·have : (es.modify j fun e => { e with key := enc k, val := v }).toList.map (·.born) = es.toList.map (·.born) := by
   apply List.ext_getElem?
   intro i
   simp only [List.getElem?_map, Array.getElem?_toList, Array.getElem?_modify]
   split
   ·cases es[i]? <;> rfl
   ·rfl
  rw [this]; exact hp
 ·intro e hmem
  obtain ⟨i, hi⟩ := List.getElem?_of_mem hmem
  simp only [Array.getElem?_toList, Array.getElem?_modify] at hi
  split at hi
  ·cases hq : es[i]? with
   | none => rw [hq] at hi; cases hi
   | some e0 =>
     rw [hq] at hi
     cases hi
     exact hc e0 (List.mem_of_getElem? (by simpa using hq))
  ·exact hc e (List.mem_of_getElem? (by simpa using hi))
 ·rw [assocPut_new ((assocAt_none k ps 0).1 ha)]
  simp [he]
 ·simp only [Array.toList_push, List.map_append, List.map_cons, List.map_nil]
  rw [List.pairwise_append]
  refine ⟨hp, by simp, ?_⟩
  intro a ha' b hb
  simp at hb
  subst hb
  obtain ⟨e, h1, rfl⟩ := List.mem_map.1 ha'
  exact hc e h1
 ·intro e hmem
  simp only [Array.toList_push, List.mem_append, List.mem_singleton] at hmem
  rcases hmem with h | h
  ·have := hc e h; omega
  ·subst h; simp
theorem run_mapUpdate_map (K : KeyOk P kt enc) {t e : TypeId} (ht : P.underlying t = some (.map kt e)) (h : MapAt enc w m ps) (k : κ) (v : Value) :
 ∃ w', (Instr.mapUpdate t (.map (some m)) (enc k) v).run P w = .ok () w' ∧ MapAt enc w' m (assocPut k v ps) ∧ Only (· = m) w w' := by
 obtain ⟨es, clk, hh, he, hp, hc⟩ := h
 have hf := K.find k es.toList ps w he
 obtain ⟨p1, p2⟩ := map_put hh he hp hc k v
 cases ha : assocAt k ps 0 with
 | none =>
   refine ⟨_, ?_, p2 ha, setMap_only _ _ _ _⟩
   simp only [Instr.mapUpdate, Sem.run_bind, run_underlying ht, Result.andThen_ok, run_getMap hh, K.check, hf, ha]
   exact run_setMap hh
 | some q =>
   obtain ⟨j, u⟩ := q
   refine ⟨_, ?_, p1 j u ha, setMap_only _ _ _ _⟩
   have hj := (assocAt_some ha).2.2
   have hkey : ((es[j]?).map (·.key)).getD (enc k) = enc k := by
    have h1 := congrArg (·[j]?) he
    simp only [List.getElem?_map, Array.getElem?_toList] at h1
    rw [Nat.sub_zero] at hj
    rw [hj] at h1
    cases hq : es[j]? with
    | none => rfl
    | some e0 =>
      rw [hq] at h1
      simp at h1
      simp [h1.1]
   simp only [Instr.mapUpdate, Sem.run_bind, run_underlying ht, Result.andThen_ok, run_getMap hh, K.check, hf, ha, hkey, K.stays]
   exact run_setMap hh
theorem run_delete_map (K : KeyOk P kt enc) {t ty e : TypeId} (ht : P.underlying t = some (.map kt e)) (h : MapAt enc w m ps) (k : κ) :
 ∃ w', (Builtin.delete_ #[t, kt] ty #[.map (some m), enc k]).run P w = .ok (.tuple #[]) w' ∧ MapAt enc w' m (assocDel k ps) ∧ Only (· = m) w w' := by
 obtain ⟨es, clk, hh, he, hp, hc⟩ := h
 have hm := (Array.getElem?_eq_some_iff.1 hh).1
 have hf := K.find k es.toList ps w he
 cases ha : assocAt k ps 0 with
 | none =>
   refine ⟨setMap w m es clk, ?_, ⟨es, clk, setMap_at hm, by rw [assocDel_none ((assocAt_none k ps 0).1 ha)]; exact he, hp, hc⟩, setMap_only _ _ _ _⟩
   simp [Builtin.delete_, run_underlying ht, run_getMap hh, K.check, hf, ha, run_setMap hh]
 | some q =>
   obtain ⟨j, u⟩ := q
   refine ⟨setMap w m (es.eraseIdxIfInBounds j) clk, ?_, ⟨_, clk, setMap_at hm, ?_, ?_, ?_⟩, setMap_only _ _ _ _⟩
   ·simp [Builtin.delete_, run_underlying ht, run_getMap hh, K.check, hf, ha, run_setMap hh]
   ·have hj : j < es.size := by
     have := (List.getElem?_eq_some_iff.1 (assocAt_some ha).2.2).1
     rw [pair_len he]; simpa using this
    rw [assocDel_at ha, Nat.sub_zero, map_erase, ← he]
    simp [Array.eraseIdxIfInBounds, hj, map_erase]
   ·have : (es.eraseIdxIfInBounds j).toList.map (·.born) = (es.toList.map (·.born)).eraseIdx j := by
     rw [← map_erase]
     unfold Array.eraseIdxIfInBounds
     split
     ·simp
     ·rename_i hj
      rw [List.eraseIdx_of_length_le (by simpa using hj)]
    rw [this]
    exact hp.sublist (List.eraseIdx_sublist _ _)
   ·intro e hmem
    unfold Array.eraseIdxIfInBounds at hmem
    split at hmem
    ·simp at hmem
     exact hc e (List.mem_of_mem_eraseIdx hmem)
    ·exact hc e hmem
theorem assocOf_put {κ : Type} [DecidableEq κ] (k x : κ) (v : Value) (l : List (κ × Value)) : assocOf x (assocPut k v l) = if x = k then some v else assocOf x l := by
 induction l with
 | nil => simp only [assocPut, assocOf]
 | cons p l ih =>
   simp only [assocPut]
   by_cases h : k = p.1
   ·rw [if_pos h]
    simp only [assocOf]
    by_cases hx : x = k
    ·rw [if_pos (hx.trans h), if_pos hx]
    ·rw [if_neg (fun e => hx (e.trans h.symm)), if_neg hx, if_neg (fun e => hx (e.trans h.symm))]
   ·rw [if_neg h]
    simp only [assocOf]
    by_cases hx : x = p.1
    ·rw [if_pos hx, if_pos hx, if_neg (fun e => h (e.symm.trans hx))]
    ·rw [if_neg hx, if_neg hx, ih]
theorem wpList_lookup_map {ops : Array Oper} {rest : List Oper} {o : Oper} {a : Act} {Q : Exit → Act → World → Prop} (K : KeyOk P kt enc) (hg : o.guard = none) (mo x : Operand) (t : TypeId) (c : Bool) (hop : o.op = Op.lookup t mo x c) {e : TypeId}
 (ht : P.underlying t = some (.map kt e)) (hm : a.eval mo = .map (some m)) (h : MapAt enc w m ps) (k : κ) (hx : a.eval x = enc k) (z : Value) (hz : (zeroValue e).run P w = .ok z w)
 (hK : wpList P ops Q rest (a.put o.dst (if c then .tuple #[(assocOf k ps).getD z, .bool (assocOf k ps).isSome] else (assocOf k ps).getD z)) w) : wpList P ops Q (o :: rest) a w := by
 refine wpList_plain hg fun K' hK' => ?_
 have hr := run_lookup_map K ht h k z hz c
 unfold Oper.wp
 simp only [execOp, hop, hm, hx, Sem.run_bind, hr, Result.andThen_ok, Sem.run_pure, Oper.upon]
 exact hK' _ _ hK
theorem wpList_lookup_nil {ops : Array Oper} {rest : List Oper} {o : Oper} {a : Act} {Q : Exit → Act → World → Prop} (K : KeyOk P kt enc) (hg : o.guard = none) (mo x : Operand) (t : TypeId) (c : Bool) (hop : o.op = Op.lookup t mo x c) {e : TypeId}
 (ht : P.underlying t = some (.map kt e)) (hm : a.eval mo = .map none) (k : κ) (hx : a.eval x = enc k) (z : Value) (hz : (zeroValue e).run P w = .ok z w)
 (hK : wpList P ops Q rest (a.put o.dst (if c then .tuple #[z, .bool false] else z)) w) : wpList P ops Q (o :: rest) a w := by
 refine wpList_plain hg fun K' hK' => ?_
 have hr := run_lookup_nil K ht k z hz c
 unfold Oper.wp
 simp only [execOp, hop, hm, hx, Sem.run_bind, hr, Result.andThen_ok, Sem.run_pure, Oper.upon]
 exact hK' _ _ hK
theorem wpList_mapUpdate_map {ops : Array Oper} {rest : List Oper} {o : Oper} {a : Act} {Q : Exit → Act → World → Prop} (K : KeyOk P kt enc) (hg : o.guard = none) (hd : o.dst = none) (mo x v : Operand) (t : TypeId) (hop : o.op = Op.mapUpdate t mo x v) {e : TypeId}
 (ht : P.underlying t = some (.map kt e)) (hm : a.eval mo = .map (some m)) (h : MapAt enc w m ps) (k : κ) (hx : a.eval x = enc k) (u : Value) (hv : a.eval v = u)
 (hK : ∀ w', MapAt enc w' m (assocPut k u ps) → Only (· = m) w w' → wpList P ops Q rest a w') : wpList P ops Q (o :: rest) a w := by
 refine wpList_plain hg fun K' hK' => ?_
 obtain ⟨w', hr, h1, h2⟩ := run_mapUpdate_map K ht h k u
 unfold Oper.wp
 simp only [execOp, hop, hm, hx, hv, Sem.run_bind, hr, Result.andThen_ok, Sem.run_pure, Oper.upon]
 rw [hd]
 exact hK' _ _ (hK w' h1 h2)
end
open Go.RowKit
theorem run_clear_blk {P : Program} {w : World} {g : Nat} {e t ty : TypeId} {cur : List Value} {z : Value} (hB : Blk w g e cur) (ht : P.underlying t = some (.slice e)) (hv : ∀ w, (zeroValue e).run P w = .ok z w) (hz : z.cells = #[z]) (h1 : z.oneCell' = true) (i m c : Nat) (hm : 0 < m) (hl : i + m ≤ cur.length) :
 ∃ w', (Builtin.clear_ #[t] ty #[.slice (some ⟨g, i, none⟩) m c]).run P w = .ok (.tuple #[]) w' ∧ Blk w' g e (cur.take i ++ List.replicate m z ++ cur.drop (i + m)) ∧ Only (· = g) w w' := by
 have hzc : (Builtin.zeroCells z.cells m).toList = List.replicate m z := by
  rw [hz]
  simp [Builtin.zeroCells]
  apply List.ext_getElem
  ·simp
  ·intro i h1 h2
   simp [Nat.mod_one]
 have hst := run_storeCells_at P g i e (List.replicate m z) 0 cur.toArray w hB (by simpa using hl) (fun v hv => by rw [List.eq_of_mem_replicate hv]; exact h1)
 simp only [Nat.add_zero, List.length_replicate] at hst
 obtain ⟨k, rfl⟩ : ∃ k, m = k + 1 := ⟨m - 1, by omega⟩
 refine ⟨_, by simp [Builtin.clear_, run_underlying ht, hv, hzc, hst]; rfl, ?_, ?_⟩
 ·have := setRow_heap w g cur.toArray (cur.take i ++ List.replicate (k + 1) z ++ cur.drop (i + (k + 1))).toArray e (0, 0) hB
  unfold Blk
  simpa using this
 ·exact ⟨rfl, rfl, rfl, by simp, fun k hk hn => setRow_other w g k _ hn⟩
theorem own_of_blk {α : Type} {R : Rep α} {w : World} {g e base cap : Nat} {S : Nat → Prop} {cur xs : List Value} {l : List α} (hB : Blk w g e cur) (hc : cur.length = cap * R.size) (hn : l.length ≤ cap) (hm : cap ≤ 9223372036854775807) (hb : base ≤ g)
 (hx : cur.take (l.length * R.size) = xs) (hf : R.flat w (fun q => S q ∧ q ≠ g) xs l) : R.Own w base e S (.slice (some ⟨g, 0, none⟩) l.length cap) l :=
 ⟨xs, ⟨hf.lens, .inr ⟨g, cap, cur.toArray, rfl, hb, hB, hn, by unfold maxLen; omega, by simpa using hc, by simpa using hx⟩⟩, hf.mono fun q hq _ => ⟨hq.1, fun h => hq.2 (by simpa [Value.ownBlock] using h)⟩⟩
theorem str_flat {w : World} {P : Nat → Prop} {l : List Str} (h : ∀ s ∈ l, sfit s) : StrR.flat w P (l.map .string) l := by
 refine ⟨l.map fun s => [.string s], by clear h; induction l with
  | nil => rfl
  | cons x l ih => simp [← ih], by simp, fun q cs s hq hs => ?_⟩
 rw [List.getElem?_map, hs] at hq
 simp at hq
 exact ⟨hq.symm, h s (List.mem_of_getElem? hs)⟩
def TellsO (F : FuncId) (caps : List Value) (G : Nat → Prop) (p : Str → Bool) (l : List Str) (w : World) : Prop :=
 ∀ (s : Str) (W : World), s ∈ l → Only G w W → Calls Tryz.prog F (.string s :: caps).toArray W fun e W' => e = .returned (.bool (p s)) ∧ Below W.heap.size W W'
theorem filter_snoc {α : Type} (p : α → Bool) (l : List α) (k : Nat) (h : k < l.length) : (l.take (k + 1)).filter p = (l.take k).filter p ++ (if p l[k] then [l[k]] else []) := by
 rw [take_snoc _ _ h, List.filter_append]
 cases hp : p l[k] <;> simp [hp]
set_option maxHeartbeats 1600000 in
theorem delF_any (F : FuncId) (caps : List Value) (p : Str → Bool) (hent : ∀ args w, (callFunc F args).run Tryz.prog w = .ok (.enter F args) w) (v : Value) (base : Nat) (S : Nat → Prop) (l : List Str) (w : World) (ho : StrR.Own w base 9 S v l)
 (hF : TellsO F caps (fun g => v.ownBlock = some g) p l w) :
 Calls Tryz.prog 240 #[v, .func (.func F) #[] caps.toArray] w fun e w' => GotOwn StrR base 9 S (l.filter fun s => !p s) e w' ∧ Only (fun g => v.ownBlock = some g) w w' := by
 obtain ⟨A, c, rfl, hc1, hc2⟩ := ho.form
 have hrow : StrR.Row w (fun _ => True) A l := (ho.mono (S' := fun _ => True) fun _ _ _ => trivial).row fun _ _ => trivial
 have CI := idxF_string F caps p hent A c l _ w hrow (by omega) (fun s cs W hs hr hb => by
  obtain ⟨rfl, _⟩ := hr
  exact hF s W hs (Only.of_below hb))
 have HF := jh hF; clear hF
 have HO := jh ho; clear ho hrow
 cases hi : l.findIdx? p with
 | none =>
   have hid : idxI p l = -1 := by unfold idxI; rw [hi]
   have hfl : (l.filter fun s => !p s) = l := by
    rw [List.filter_eq_self]
    intro s hs
    have := List.findIdx?_eq_none_iff.1 hi s hs
    simp [this]
   have HFL := jh hfl; clear hfl
   rw [hid] at CI
   clear hid hi
   go_enter Tryz.func240, Tryz.ntmps240
   go_wp2_with fail
   refine CI.mono ?_
   clear CI
   rintro e w1 ⟨rfl, hb1⟩
   go_wp2
   go_ret
   exact ⟨⟨_, rfl, by rw [HFL.out]; exact HO.out.ext hb1⟩, Only.of_below hb1⟩
 | some i =>
   obtain ⟨hil, hpi, hlow⟩ := List.findIdx?_eq_some_iff_getElem.1 hi
   have hid : idxI p l = i := by unfold idxI; rw [hi]
   obtain ⟨xs, hx1, hx2⟩ := HO.out
   obtain ⟨g, cap, hv, hbg, hglt⟩ := hx1.form (by omega)
   obtain ⟨rfl, rfl⟩ : A = some ⟨g, 0, none⟩ ∧ c = cap := by injection hv with h1 _ h3; exact ⟨h1, h3⟩
   clear hv
   obtain ⟨cur0, hB0, hcl0, hcx⟩ : ∃ cur0, Blk w g 9 cur0 ∧ cur0.length = c ∧ cur0.take l.length = xs := by
    rcases hx1.2 with ⟨h, h0⟩ | ⟨g', cap', cur, hv, _, hh, _, _, hsz, htk⟩
    ·omega
    ·obtain ⟨rfl, rfl⟩ : g = g' ∧ c = cap' := by injection hv with h1 _ h3; exact ⟨by simpa using h1, h3⟩
     exact ⟨cur.toList, by unfold Blk; simpa using hh, by simpa [StrR_size] using hsz, by simpa [StrR_size] using htk⟩
   have hat : ∀ (j : Nat) (s : Str), l[j]? = some s → cur0[j]? = some (.string s) := by
    intro j s hj
    have hjl := (List.getElem?_eq_some_iff.1 hj).1
    obtain ⟨css, hxs, hcn, hcf⟩ := hx2
    have hlen : ∀ cs ∈ css, cs.length = 1 := by
     intro cs hcs
     obtain ⟨q, hq, rfl⟩ := List.getElem_of_mem hcs
     exact StrR.len (hcf q _ _ (List.getElem?_eq_getElem hq) (List.getElem?_eq_getElem (by omega)))
    have h1 := flatten_at hlen (List.getElem?_eq_getElem (show j < css.length by omega)) (show 0 < 1 by decide)
    obtain ⟨h2, _⟩ := hcf j _ _ (List.getElem?_eq_getElem (show j < css.length by omega)) hj
    rw [h2, ← hxs, ← hcx, Nat.mul_one, Nat.add_zero, List.getElem?_take, if_pos hjl] at h1
    simpa using h1
   have HAT := jh hat
   have hfit : ∀ s ∈ l, sfit s := by
    intro s hs
    obtain ⟨j, hj⟩ := List.getElem?_of_mem hs
    obtain ⟨css, hxs, hcn, hcf⟩ := hx2
    have hjl := (List.getElem?_eq_some_iff.1 hj).1
    exact (hcf j _ _ (List.getElem?_eq_getElem (show j < css.length by omega)) hj).2
   have HFIT := jh hfit
   rw [hid] at CI
   have hstart : (l.take (i + 1)).filter (fun s => !p s) = l.take i := by
    rw [filter_snoc _ _ _ hil]
    simp only [hpi, Bool.not_true, Bool.false_eq_true, if_false, List.append_nil]
    rw [List.filter_eq_self]
    intro s hs
    obtain ⟨j, hj, rfl⟩ := List.getElem_of_mem hs
    rw [List.getElem_take]
    have := hlow j (by simp at hj; omega)
    simpa using this
   have HST := jh hstart
   have HL := jh hlow
   clear hat hfit hx1 hx2 hcx hid hi hlow hpi hstart
   go_enter Tryz.func240, Tryz.ntmps240
   go_wp2_with fail
   refine CI.mono ?_
   clear CI
   rintro e w1 ⟨rfl, hb1⟩
   have e1 : ((i : Int) == -1) = false := by rw [beq_eq_false_iff_ne]; omega
   go_wp2_with fail
   go_loopw [5, 6, 7] (fun x y _ wr => ∃ (k j : Nat) (cur : List Value), x = .int .i64 k ∧ y = .int .i64 j ∧ k < j ∧ j ≤ l.length ∧ Blk wr g 9 cur ∧ cur.length = c ∧ cur.take k = ((l.take j).filter fun s => !p s).map .string ∧
    ((l.take j).filter fun s => !p s).length = k ∧ (∀ (q : Nat) (s : Str), j ≤ q → l[q]? = some s → cur[q]? = some (.string s)) ∧ Only (· = g) w wr) (fun _ y _ _ => l.length - (intOf y).toNat)
   case atStart =>
    refine ⟨i, i + 1, cur0, rfl, by go_num, by omega, by omega, hB0.ext hb1, hcl0, ?_, ?_, fun q s _ hq => HAT.out q s hq, Only.of_below hb1⟩
    ·rw [HST.out]
     apply List.ext_getElem?
     intro q
     rw [List.getElem?_take, List.getElem?_map, List.getElem?_take]
     by_cases hq : q < i
     ·rw [if_pos hq, if_pos hq, HAT.out q _ (List.getElem?_eq_getElem (by omega)), List.getElem?_eq_getElem (by omega)]; rfl
     ·rw [if_neg hq, if_neg hq]; rfl
    ·rw [HST.out]; simp; omega
   case round =>
    obtain ⟨k, j, cur, rfl, rfl, hkj, hj, hB, hcl, htk, hfl, hrest, hon⟩ := hrel
    have hgl := hB.lt
    by_cases hlt : j < l.length
    ·have hlj := List.getElem?_eq_getElem hlt
     have hsj := hrest j _ (Nat.le_refl _) hlj
     have hmem := List.getElem_mem hlt
     have hfs := filter_snoc (fun s => !p s) l j hlt
     generalize l[j] = s at hlj hsj hmem hfs
     have cj := hB.cell j
     rw [hsj] at cj
     have hfz := hB.frozen k
     have hkc : k < cur.length := by omega
     have ck := hB.cell k
     rw [List.getElem?_eq_getElem hkc] at ck
     have hlt' : (j : Int) < l.length := by omega
     have hkl' : (k : Int) < l.length := by omega
     have C := HF.out s wr hmem (hon.mono fun q hq => by simp [Value.ownBlock, hq])
     have HX := jh (ja htk (ja hfl (ja hrest (ja hfs hlj)))); clear htk hfl hrest hfs hlj hsj
     go_wp2_with fail
     refine C.mono ?_
     clear C
     cases hp : p s with
     | true =>
       have HP := jh hp; clear hp
       rintro e w2 ⟨rfl, hb2⟩
       go_wp2
       go_round
       case rel =>
        obtain ⟨htk, hfl, hrest, hfs, hlj⟩ := HX.out
        rw [HP.out] at hfs
        simp at hfs
        refine ⟨k, j + 1, cur, rfl, by go_num, by omega, by omega, hB.ext hb2, hcl, ?_, ?_, fun q s hq hs => hrest q s (by omega) hs, hon.tr (Only.of_below hb2)⟩
        ·rw [hfs]; exact htk
        ·rw [hfs]; exact hfl
       case measure => simp [intOf]; omega
     | false =>
       have HP := jh hp; clear hp
       rintro e w2 ⟨rfl, hb2⟩
       have hB2 := hB.ext hb2
       have hf2 := hB2.frozen k
       have c2 := hB2.cell k
       rw [List.getElem?_eq_getElem hkc] at c2
       clear hfz cj ck
       go_wp2
       go_round
       case rel =>
        obtain ⟨htk, hfl, hrest, hfs, hlj⟩ := HX.out
        rw [HP.out] at hfs
        simp at hfs
        refine ⟨k + 1, j + 1, cur.set k (.string s), by go_num, by go_num, by omega, by omega, hB2.set_ k _, by simpa using hcl, ?_, ?_, ?_, (hon.tr (Only.of_below hb2)).tr (Only.set_ (F := fun x => x = g) (p := ⟨g, k, none⟩) rfl _)⟩
        ·rw [hfs, List.map_append, ← htk]
         rw [List.take_set, List.take_succ_eq_append_getElem hkc]
         rw [List.set_append_right _ _ (by simp; omega)]
         simp [Nat.min_eq_left (Nat.le_of_lt hkc)]
        ·rw [hfs]; simp; exact hfl
        ·intro q s' hq hs
         rw [List.getElem?_set_ne (by omega)]
         exact hrest q s' (by omega) hs
       case measure => simp [intOf]; omega
    ·have hjl : j = l.length := by omega
     subst hjl
     have hlt' : ¬ (l.length : Int) < l.length := by omega
     have hkc : ¬ c = k := by omega
     have hk0 : (k : Int) ≤ l.length := by omega
     have hk1 : (l.length : Int) ≤ c := by omega
     obtain ⟨w2, hcr, hB2, ho2⟩ := run_clear_blk (P := Tryz.prog) (t := 27) (ty := 0) (z := .string ⟨#[]⟩) hB Tryz.underlying27 (fun _ => by kernel_rfl) rfl rfl k (l.length - k) (c - k) (by omega) (by omega)
     go_wp2_with fail
     go_ret
     rw [List.take_length] at htk hfl
     refine ⟨⟨_, rfl, ?_⟩, (hon.tr ho2).mono fun q hq => by simp [Value.ownBlock, hq]⟩
     have key := own_of_blk (R := StrR) (base := base) (S := S) (cap := c) (xs := (l.filter fun s => !p s).map .string) (l := l.filter fun s => !p s) hB2 (by simp [StrR_size]; omega) (by rw [hfl]; omega) hc2 hbg (by
      rw [hfl, StrR_size, Nat.mul_one, List.append_assoc, List.take_append_of_le_length (by simp; omega), ← htk]
      exact List.take_of_length_le (by simp; omega)) (str_flat fun s hs => HFIT.out s (List.mem_filter.1 hs).1)
     rw [hfl] at key
     exact key
set_option maxHeartbeats 800000 in
theorem equal_any (A A' : Option Addr) (c c' : Nat) (l m : List Str) (P Q : Nat → Prop) (w : World) (hr : StrR.Row w P A l) (hq : StrR.Row w Q A' m) (hl : l.length ≤ 9223372036854775807) (_hm : m.length ≤ 9223372036854775807) :
 Calls Tryz.prog 255 #[.slice A l.length c, .slice A' m.length c'] w fun e w' => e = .returned (.bool (decide (l = m))) ∧ Below w.heap.size w w' := by
 by_cases hlen : l.length = m.length
 ·have e0 : ((l.length : Int) != m.length) = false := by simp [hlen]
  have HLEN := jh hlen; clear hlen
  have HR := jh hr; clear hr
  have HQ := jh hq; clear hq
  go_enter Tryz.func255, Tryz.ntmps255
  go_wp2
  go_loopw [5, 13] (fun _ i wr => ∃ k : Nat, k ≤ l.length ∧ i = .int .i64 k ∧ (∀ j, j < k → l[j]? = m[j]?) ∧ Below w.heap.size w wr) (fun _ i _ => l.length - (intOf i).toNat)
  case atStart => exact ⟨0, Nat.zero_le _, rfl, fun j hj => absurd hj (by omega), jb _ _⟩
  case round =>
   obtain ⟨k, hk, rfl, hsame, hbl⟩ := hrel
   have HS := jh hsame; clear hsame
   by_cases hlt : k < l.length
   ·have hlk := List.getElem?_eq_getElem hlt
    have hmk := List.getElem?_eq_getElem (show k < m.length by have := HLEN.out; omega)
    generalize l[k] = a at hlk
    generalize m[k]'(by have := HLEN.out; omega) = a' at hmk
    obtain ⟨b, o, cs, rfl, hP, hbw, ⟨rfl, _⟩, hcs⟩ := (HR.out.ext hbl).at_ hlk
    obtain ⟨b', o', cs', rfl, hP', hbw', ⟨rfl, _⟩, hcs'⟩ := (HQ.out.ext hbl).at_ hmk
    have c0 := hcs 0 _ rfl
    have c1 := hcs' 0 _ rfl
    simp only [StrR_size, Nat.mul_one, Nat.add_zero] at c0 c1
    have hlt' : (k : Int) < l.length := by omega
    have hlt2 : (k : Int) < m.length := by have := HLEN.out; omega
    have HK := jh (ja hlk hmk)
    clear hlk hmk hcs hcs'
    by_cases hab : a = a'
    ·subst hab
     go_wp2_with fail
     go_quiet (fail)
     go_wp2_with fail
     go_round
     case rel =>
      refine ⟨k + 1, by omega, by go_num, fun j hj => ?_, hbl.drewN _⟩
      by_cases hjk : j < k
      ·exact HS.out j hjk
      ·have : j = k := by omega
       subst this
       rw [HK.out.1, HK.out.2]
     case measure => simp [intOf]; omega
    ·have hne : (a.toList == a'.toList) = false := by
      rw [beq_eq_false_iff_ne]; intro h; exact hab (by rw [ByteArray.toList_eq, ByteArray.toList_eq] at h; obtain ⟨⟨x⟩⟩ := a; obtain ⟨⟨y⟩⟩ := a'; simp at h; simp [h])
     have HAB := jh hab; clear hab
     go_wp2_with fail
     go_quiet (fail)
     go_wp2_with fail
     go_ret
     refine ⟨ret_bool ?_, hbl.drewN _⟩
     symm
     rw [decide_eq_false_iff_not]
     intro h
     have := HK.out.1
     rw [h, HK.out.2] at this
     injection this with this
     exact HAB.out this.symm
   ·go_wp2
    go_ret
    refine ⟨ret_bool ?_, hbl⟩
    symm
    rw [decide_eq_true_iff]
    apply List.ext_getElem?
    intro j
    by_cases hj : j < k
    ·exact HS.out j hj
    ·have := HLEN.out
     rw [List.getElem?_eq_none (by omega), List.getElem?_eq_none (by omega)]
 ·have e0 : ((l.length : Int) != m.length) = true := by rw [bne_iff_ne]; omega
  have HLEN := jh hlen; clear hlen
  go_enter Tryz.func255, Tryz.ntmps255
  go_wp2
  go_ret
  exact ⟨ret_bool (by symm; rw [decide_eq_false_iff_not]; intro h; exact HLEN.out (by rw [h])), jb _ _⟩
set_option maxHeartbeats 400000 in
theorem unvalid_any (s : Str) (w : World) (hs : sfit s) (hT : Tabs w) : Calls Tryz.prog 284 #[.string s] w fun e w' => e = .returned (.bool (!validB s)) ∧ Below w.heap.size w w' := by
 have C := valid_any s w hs hT
 go_enter Tryz.func284, Tryz.ntmps284
 go_wp2_with fail
 refine C.mono ?_
 clear C
 rintro e w' ⟨rfl, hb⟩
 go_wp2
 go_ret
 exact ⟨rfl, hb⟩
theorem Tabs.only {F : Nat → Prop} {w w' : World} (h : Tabs w) (hb : Only F w w') (h0 : ¬ F 0) (h1 : ¬ F 1) : Tabs w' := by
 have keep : ∀ {a : Addr} {v : Value}, (a.block = 0 ∨ a.block = 1) → w.cell? a = some v → w'.cell? a = some v := fun {a v} ha hc =>
  (World.cell?_of_block (w := w) (hb.block a.block (lt_of_cell hc) (by rcases ha with e | e <;> rw [e] <;> assumption))).trans hc
 exact ⟨fun c hc => keep (.inl rfl) (h.1 c hc), fun i hi => ⟨keep (.inr rfl) (h.2 i hi).1, keep (.inr rfl) (h.2 i hi).2⟩⟩
set_option maxHeartbeats 400000 in
theorem validL_any (A : Option Addr) (c : Nat) (l : List Str) (P : Nat → Prop) (w : World) (hr : StrR.Row w P A l) (hl : l.length ≤ 100000000) (hs : ∀ s ∈ l, sfit s) (hT : Tabs w) (h2 : 2 ≤ w.heap.size) :
 Calls Tryz.prog 256 #[.slice A l.length c] w fun e w' => GotOwn StrR w.heap.size 9 (fun g => w.heap.size ≤ g ∨ P g) (l.filter validB) e w' ∧ Below w.heap.size w w' := by
 have C := clone_string A c l P w hr hl
 have HS := jh hs; clear hs
 have HL := jh hl; clear hl
 have hf : (l.filter fun s => !!validB s) = l.filter validB := by simp
 have HF := jh hf; clear hf
 go_enter Tryz.func256, Tryz.ntmps256
 go_wp2_with fail
 refine C.mono ?_
 clear C
 rintro e w1 ⟨⟨v1, rfl, ho1⟩, hb1⟩
 have hlt := ho1.lt
 have D := delF_any 284 [] (fun s => !validB s) (Go.Proofs.enters_of Tryz.func284 (by kernel_rfl) rfl) v1 _ _ l w1 ho1 (fun s W hs ho => unvalid_any s W (HS.out s hs) ((hT.below hb1).only ho (fun h => by have := (hlt 0 h).1; omega) (fun h => by have := (hlt 1 h).1; omega)))
 rw [HF.out] at D
 go_wp2_with fail
 refine D.mono ?_
 clear D
 rintro e w2 ⟨⟨v2, rfl, ho2⟩, hb2⟩
 go_wp2
 go_ret
 exact ⟨⟨_, rfl, ho2⟩, hb1.trans (hb2.low (fun g hg => (hlt g hg).1) hb1.size)⟩
end Go.Proofs.YtpgocpodhamibaaGreatDoor
