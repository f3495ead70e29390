/- words.Format and speculateref01.Format; what the functions read of the package variables. -/
import Derived.Test.YtocnbeendjabpaaDoorRNum
import Derived.Lib.SmallJoins
import Derived.Lib.AppendIntMem
import Derived.Lib.ItoaLen
namespace Go.Proofs.YtocnbeendjabpaaDoor
open Go.RowKit

/-- what is read of package-level variables -/
structure Env (w : World) : Prop where
  maxlen : ∃ m, w.cell? ⟨3, 0, none⟩ = some (.int .i64 m)
  err : ∃ ev, w.cell? ⟨1, 0, none⟩ = some ev ∧ (ev = .nilIface ∨ ∃ te pe, ev = .iface te pe)
  tab : Lib.TabIs Tryd.prog w "internal/strconv.uint64pow10" .u64 Lib.pow10Tab
theorem gTab : Tryd.prog.globalNamed "internal/strconv.uint64pow10" = some 2 := by kernel_rfl
theorem cell_stays {w w' : World} {N : Nat} (hb : Below N w w') (hN : w.heap.size ≤ N) {p : Addr} {v : Value} (h : w.cell? p = some v) : w'.cell? p = some v :=
  (hb.cell (Nat.lt_of_lt_of_le (World.block_lt_of_cell? w p h) hN)).trans h
theorem Env.below {w w' : World} {N : Nat} (h : Env w) (hb : Below N w w') (hN : w.heap.size ≤ N) : Env w' := by
  obtain ⟨⟨m, hm⟩, ⟨ev, he, he2⟩, ht⟩ := h
  exact ⟨⟨m, cell_stays hb hN hm⟩, ⟨ev, cell_stays hb hN he, he2⟩, Joins.tab_stays gTab ht hb hN⟩

set_option maxHeartbeats 400000 in
theorem format_any (n : Int) (w : World) (h0 : -9223372036854775808 ≤ n) (h1 : n ≤ 9223372036854775807) (ht : Lib.TabIs Tryd.prog w "internal/strconv.uint64pow10" .u64 Lib.pow10Tab) :
    Calls Tryd.prog 20 #[.int .i64 n] w fun e w' => e = .returned (.string (mk (Lib.itoa n))) ∧ Below w.heap.size w w' := by
  have HT := Lib.hid ht
  clear ht
  go_enter Tryd.func20, Tryd.ntmps20
  go_wp2_with (go_at_call 30; refine (Tryd.strconv_FormatInt_10 n h0 h1 w HT.out).mono ?_; rintro e w' ⟨rfl, k, os, rfl⟩)
  go_ret
  exact ⟨rfl, Lib.below_grow _ _ (Nat.le_refl _) _ _⟩

def RFmtRel (w : World) (U : Nat) (v3 v5 : Value) (wr : World) : Prop := ∃ (u : Nat) (S : ByteArray), v3 = .int .u64 u ∧ v5 = .string S ∧ u ≤ U ∧ Lib.decDigits U = Lib.decDigits u ++ S.data.toList ∧ Below w.heap.size w wr
/-- the last digit -/
def dgS (u : Nat) : ByteArray := strOfNums [48 + (u : Int) % 10]
theorem dgS_data (u : Nat) : (dgS u).data.toList = [UInt8.ofNat (48 + u % 10)] := by
  unfold dgS
  rw [strOfNums_data, show (48 + (u : Int) % 10) = ((48 + u % 10 : Nat) : Int) by omega]
  rfl
theorem app_data (a b : ByteArray) : (a ++ b).data.toList = a.data.toList ++ b.data.toList := by
  rw [show (a ++ b).data = a.data ++ b.data from ByteArray.data_append, Array.toList_append]
theorem dec_step {u : Nat} (h : ¬ u < 10) (S : ByteArray) : Lib.decDigits u ++ S.data.toList = Lib.decDigits (u / 10) ++ (dgS u ++ S).data.toList := by
  rw [Lib.decDigits, dif_neg h, app_data, dgS_data]
  simp
theorem dec_last {u : Nat} (h : u < 10) : Lib.decDigits u = (dgS u).data.toList := by
  rw [dgS_data, Lib.decDigits, dif_pos h, Nat.mod_eq_of_lt h]
theorem mk_cons (a b : ByteArray) : mk (a.data.toList ++ b.data.toList) = a ++ b := by
  rw [← app_data, mk_data]
theorem dig_room {U u : Nat} {S : ByteArray} (hU : U ≤ 9223372036854775808) (h : Lib.decDigits U = Lib.decDigits u ++ S.data.toList) : ¬ 9223372036854775807 < (dgS u).size + S.size ∧ ¬ 9223372036854775807 < 1 + ((dgS u).size + S.size) := by
  have h1 := congrArg List.length h
  rw [List.length_append, Lib.decDigits_length, ← Lib.size_eq] at h1
  have h2 := Lib.nDigits_le20 U (by omega)
  have h3 : (dgS u).size = 1 := by rw [Lib.size_eq, dgS_data]; rfl
  omega
theorem itoa_p {n : Int} (h : 0 ≤ n) : mk (Lib.itoa n) = (⟨#[]⟩ : ByteArray) ++ mk (Lib.decDigits n.toNat) := by
  unfold Lib.itoa
  rw [if_neg (by omega), show (⟨#[]⟩ : ByteArray) ++ mk (Lib.decDigits n.toNat) = mk (Lib.decDigits n.toNat) from ByteArray.empty_append]
theorem itoa_m {n : Int} (h : n < 0) : mk (Lib.itoa n) = (⟨#[45]⟩ : ByteArray) ++ mk (Lib.decDigits n.natAbs) := by
  unfold Lib.itoa
  rw [if_pos h, ← mk_data ((⟨#[45]⟩ : ByteArray) ++ mk (Lib.decDigits n.natAbs)), app_data, data_mk]
  rfl

set_option maxRecDepth 100000 in
set_option maxHeartbeats 2000000 in
theorem rformat_pos (n : Int) (w : World) (h0 : 0 ≤ n) (h1 : n ≤ 9223372036854775807) :
    Calls Tryd.prog 21 #[.int .i64 n] w fun e w' => e = .returned (.string (mk (Lib.itoa n))) ∧ Below w.heap.size w w' := by
  have hneg : ¬ n < 0 := by omega
  obtain ⟨U, hU⟩ : ∃ U, U = n.toNat := ⟨_, rfl⟩
  have HU := Lib.hid hU
  have hUb : U ≤ 9223372036854775808 := by omega
  clear hU
  go_enter Tryd.func21, Tryd.ntmps21
  go_wp2
  go_loopw [3, 5] (fun v3 v5 wr => RFmtRel w U v3 v5 wr) (fun u _ _ => (intOf u).toNat)
  case atStart => exact ⟨U, ⟨#[]⟩, by congr 1; have := HU.out; omega, rfl, Nat.le_refl _, by simp, Below.refl _ _⟩
  case round =>
    obtain ⟨u, S, rfl, rfl, hu, hd, hb⟩ := hrel
    have hu2 : (u : Int) ≤ 9223372036854775808 := by omega
    obtain ⟨hsz, hsz2⟩ := dig_room (by omega) hd
    have HD := Lib.hid hd
    clear hd
    have hconv : (convert 41 9 (.slice (some ⟨wr.heap.size, 0, none⟩) 1 1)).run Tryd.prog (wr.alloc (.cells #[.int .u8 (48 + (u : Int) % 10)] 5)) = .ok (.string (dgS u)) (wr.alloc (.cells #[.int .u8 (48 + (u : Int) % 10)] 5)) :=
      conv_own (B := 0) (word := [48 + (u : Int) % 10]) (World.ownsRow_lit _ _ _ (Nat.zero_le _) (by unfold maxLen; omega) rfl)
    have hb2 := Lib.hid (hb.alloc hb.size (.cells #[.int .u8 (48 + (u : Int) % 10)] 5))
    by_cases h10 : u < 10
    · have hz : ((u : Int) / 10 == 0) = true := by simp; omega
      go_wp2
      go_ret
      refine ⟨?_, hb2.out⟩
      rw [itoa_p h0]
      rw [← HU.out, HD.out, dec_last h10, mk_cons]
      rfl
    · have hz : ((u : Int) / 10 == 0) = false := by simp; omega
      go_wp2
      go_roundw
      case rel => exact ⟨u / 10, dgS u ++ S, by go_num, rfl, by omega, by rw [HD.out]; exact dec_step h10 S, hb2.out⟩
      case measure => simp [intOf]; omega

set_option maxRecDepth 100000 in
set_option maxHeartbeats 2000000 in
theorem rformat_neg (n : Int) (w : World) (h0 : n < 0) (h1 : -9223372036854775808 ≤ n) :
    Calls Tryd.prog 21 #[.int .i64 n] w fun e w' => e = .returned (.string (mk (Lib.itoa n))) ∧ Below w.heap.size w w' := by
  have hneg : ¬ 0 ≤ n := by omega
  obtain ⟨U, hU⟩ : ∃ U, U = n.natAbs := ⟨_, rfl⟩
  have HU := Lib.hid hU
  have hUb : U ≤ 9223372036854775808 := by omega
  clear hU
  go_enter Tryd.func21, Tryd.ntmps21
  go_wp2
  go_loopw [3, 5] (fun v3 v5 wr => RFmtRel w U v3 v5 wr) (fun u _ _ => (intOf u).toNat)
  case atStart => exact ⟨U, ⟨#[]⟩, by congr 1; have := HU.out; simp only [IntKind.wrap_u64]; omega, rfl, Nat.le_refl _, by simp, Below.refl _ _⟩
  case round =>
    obtain ⟨u, S, rfl, rfl, hu, hd, hb⟩ := hrel
    have hu2 : (u : Int) ≤ 9223372036854775808 := by omega
    obtain ⟨hsz, hsz2⟩ := dig_room (by omega) hd
    have HD := Lib.hid hd
    clear hd
    have hconv : (convert 41 9 (.slice (some ⟨wr.heap.size, 0, none⟩) 1 1)).run Tryd.prog (wr.alloc (.cells #[.int .u8 (48 + (u : Int) % 10)] 5)) = .ok (.string (dgS u)) (wr.alloc (.cells #[.int .u8 (48 + (u : Int) % 10)] 5)) :=
      conv_own (B := 0) (word := [48 + (u : Int) % 10]) (World.ownsRow_lit _ _ _ (Nat.zero_le _) (by unfold maxLen; omega) rfl)
    have hb2 := Lib.hid (hb.alloc hb.size (.cells #[.int .u8 (48 + (u : Int) % 10)] 5))
    by_cases h10 : u < 10
    · have hz : ((u : Int) / 10 == 0) = true := by simp; omega
      go_wp2
      go_ret
      refine ⟨?_, hb2.out⟩
      rw [itoa_m h0]
      rw [← HU.out, HD.out, dec_last h10, mk_cons]
      rfl
    · have hz : ((u : Int) / 10 == 0) = false := by simp; omega
      go_wp2
      go_roundw
      case rel => exact ⟨u / 10, dgS u ++ S, by go_num, rfl, by omega, by rw [HD.out]; exact dec_step h10 S, hb2.out⟩
      case measure => simp [intOf]; omega

theorem rformat_any (n : Int) (w : World) (h0 : -9223372036854775808 ≤ n) (h1 : n ≤ 9223372036854775807) :
    Calls Tryd.prog 21 #[.int .i64 n] w fun e w' => e = .returned (.string (mk (Lib.itoa n))) ∧ Below w.heap.size w w' := by
  by_cases h : n < 0
  · exact rformat_neg n w h h0
  · exact rformat_pos n w (by omega) h1
end Go.Proofs.YtocnbeendjabpaaDoor
