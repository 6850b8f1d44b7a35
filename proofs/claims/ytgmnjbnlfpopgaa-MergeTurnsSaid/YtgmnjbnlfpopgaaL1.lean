import Derived.Test.YtgmnjbnlfpopgaaK8
namespace Go.Proofs.Ytgmnjbnlfpopgaa
open Go.RowKit Go.Proofs.Dm

/-- Of the first q numbers: does each stand once? -/
def wantAt (L : List Int) (q : Nat) : Bool := (List.range q).all fun i => L.count (i : Int) == 1
theorem wantAt_next (L : List Int) (q : Nat) : wantAt L (q + 1) = (wantAt L q && (L.count (q : Int) == 1)) := by
  unfold wantAt
  rw [List.range_succ, List.all_append]
  simp
theorem wantAt_all (L : List Int) : wantAt L L.length = (turnP L).isSome := by
  rw [Bool.eq_iff_iff, Option.isSome_iff_exists, turnP_iff]
  unfold wantAt Once
  simp
theorem count_take_next (L : List Int) (j : Nat) (h : j < L.length) (v : Int) : (L.take (j + 1)).count v = (L.take j).count v + (if L.getD j 0 = v then 1 else 0) := by
  rw [take_snoc L j h, List.count_append, List.count_singleton]
  simp
theorem count_take_le (L : List Int) (j : Nat) (v : Int) : (L.take j).count v ≤ j := by
  have := List.count_le_length (a := v) (l := L.take j)
  rw [List.length_take] at this
  omega

set_option maxRecDepth 100000 in
set_option maxHeartbeats 3200000 in
theorem turns_walk (A : Option Addr) (c : Nat) (xs : List Int) (w : World) (hs : Sl w A (ints xs)) (hc : xs.length ≤ c) (hm : c ≤ maxLen) :
    Calls Try.prog 4 #[.slice A xs.length c] w fun e w' => e = .returned (.bool true) ∧ Fr [] w w' := by
  obtain ⟨L, hL⟩ : ∃ L, L = xs.take 200 := ⟨_, rfl⟩
  have hsL : Sl w A (ints L) := by rw [hL, ints_take]; exact hs.take 200
  have hLl : L.length ≤ 200 := by rw [hL, List.length_take]; omega
  have hL2 : 200 < xs.length → L.length = 200 := fun h => by rw [hL, List.length_take]; omega
  have hL3 : ¬ 200 < xs.length → L = xs := fun h => by rw [hL]; exact List.take_of_length_le (by omega)
  have hturn := turn_any A c L w hsL (by omega)
  have HT := Lib.hid hturn
  have hcc : 200 < xs.length → 200 ≤ c := fun h => by omega
  clear hturn hm hL
  go_enter Try.func4, Try.ntmps4
  go_upto_if 14 with fail
  go_cut [0] (fun s0 wx => s0 = .slice A L.length c ∧ wx = w)
  case first =>
    by_cases h : 200 < xs.length
    · have HL := Lib.hid (hL2 h)
      have h2 := hcc h
      clear hL2 hL3 hcc
      rcases hs.at_ (ints_get xs 0 (by omega)) with ⟨ad, rfl, _⟩
      go_wp2
      go_meet
      exact ⟨by rw [HL.out], rfl⟩
    · have HL := Lib.hid (hL3 h)
      clear hL2 hL3 hcc
      go_wp2
      go_meet
      exact ⟨by rw [HL.out], rfl⟩
  case rest =>
    obtain ⟨rfl, rfl⟩ := hcut
    clear hL2 hL3 hcc hs hc
    go_wp2_with fail
    refine HT.out.mono ?_
    rintro e w1 ⟨hf1, hans⟩
    have HW := Lib.hid (wantAt_all L)
    obtain ⟨p, cp, Ap, B, hB, he, hBp⟩ : ∃ (p : List Int) (cp : Nat) (Ap : Option Addr) (B : Bool), B = (turnP L).isSome ∧ e = .returned (.tuple #[.slice Ap p.length cp, .bool B]) ∧ ((B = true ∧ turnP L = some p ∧ Sl w1 Ap (ints p)) ∨ (B = false ∧ p = [])) := by
      cases ho : turnP L with
      | none => rw [ho] at hans; exact ⟨[], 0, none, false, rfl, hans, .inr ⟨rfl, rfl⟩⟩
      | some out => rw [ho] at hans; obtain ⟨A1, c1, h1, h2, _⟩ := hans; exact ⟨out, c1, A1, true, rfl, h1, .inl ⟨rfl, rfl, h2.sl⟩⟩
    subst he
    have HB := Lib.hid hB
    have HBP := Lib.hid hBp
    have hs1 := hsL.fr hf1 (.inr List.not_mem_nil)
    clear hans hB hBp HT hsL
    go_wp2_with fail
    go_loopw [24, 5] (fun iv tv wr => ∃ q : Nat, iv = .int .i64 q ∧ q ≤ L.length ∧ tv = .bool (wantAt L q) ∧ wr = w1) (fun iv _ _ => L.length - (intOf iv).toNat)
    case atStart => exact ⟨0, rfl, Nat.zero_le _, rfl, rfl⟩
    case round =>
      obtain ⟨q, rfl, hq, rfl, rfl⟩ := hrel
      by_cases hlt : q < L.length
      · have HN := Lib.hid (wantAt_next L q)
        obtain ⟨b, hb⟩ : ∃ b, b = wantAt L q := ⟨_, rfl⟩
        rw [← hb] at HN ⊢
        clear hb
        go_wp2_with fail
        go_loopw [29, 7] (fun jv nv wr2 => ∃ j : Nat, jv = .int .i64 j ∧ j ≤ L.length ∧ nv = .int .i64 ((L.take j).count (q : Int) : Nat) ∧ wr2 = wr) (fun jv _ _ => L.length - (intOf jv).toNat)
        case atStart => exact ⟨0, rfl, Nat.zero_le _, by simp, rfl⟩
        case round =>
          obtain ⟨j, rfl, hj, rfl, rfl⟩ := hrel
          by_cases hjl : j < L.length
          · obtain ⟨ad, rfl, hcell⟩ := sl_ints hs1 hjl
            have hnx := count_take_next L j hjl (q : Int)
            have hle := count_take_le L j (q : Int)
            obtain ⟨x, hx⟩ : ∃ x, x = L.getD j 0 := ⟨_, rfl⟩
            obtain ⟨n, hn⟩ : ∃ n, n = (L.take j).count (q : Int) := ⟨_, rfl⟩
            rw [← hx] at hcell hnx
            rw [← hn] at hnx hle ⊢
            have HNX := Lib.hid hnx
            clear hx hn hnx
            by_cases hxq : x = (q : Int)
            · have hxq2 : (x == (q : Int)) = true := by simpa using hxq
              have HX := Lib.hid hxq
              clear hxq
              go_wp2_with fail
              go_roundw
              case rel => exact ⟨j + 1, by go_num, by omega, by rw [HNX.out, if_pos HX.out]; go_num, trivial⟩
              case measure => simp [intOf]; omega
            · have hxq2 : (x == (q : Int)) = false := beq_eq_false_iff_ne.2 hxq
              have HX := Lib.hid hxq
              clear hxq
              go_wp2_with fail
              go_roundw
              case rel => exact ⟨j + 1, by go_num, by omega, by rw [HNX.out, if_neg HX.out]; rfl, trivial⟩
              case measure => simp [intOf]; omega
          · obtain rfl : j = L.length := by omega
            rw [List.take_length]
            obtain ⟨n, hn⟩ : ∃ n, n = L.count (q : Int) := ⟨_, rfl⟩
            rw [← hn] at HN ⊢
            clear hn
            cases b with
            | true =>
              by_cases h1 : n = 1
              · subst h1
                go_wp2_with fail
                go_roundw
                case rel => exact ⟨q + 1, by go_num, by omega, by rw [HN.out]; rfl, trivial⟩
                case measure => simp [intOf]; omega
              · have h2 : ((n : Int) == 1) = false := by simp; omega
                have h3 : (n == 1) = false := by simp; omega
                have H3 := Lib.hid h3
                clear h1 h3
                go_wp2_with fail
                go_roundw
                case rel => exact ⟨q + 1, by go_num, by omega, by rw [HN.out, H3.out]; rfl, trivial⟩
                case measure => simp [intOf]; omega
            | false =>
              go_wp2_with fail
              go_roundw
              case rel => exact ⟨q + 1, by go_num, by omega, by rw [HN.out]; rfl, trivial⟩
              case measure => simp [intOf]; omega
      · obtain rfl : q = L.length := by omega
        rw [HW.out, ← HB.out]
        rcases HBP.out with ⟨rfl, hp, hsp⟩ | ⟨rfl, rfl⟩
        · obtain ⟨hpl, hpi⟩ := turnP_back hp
          have HPI := Lib.hid hpi
          have HPL := Lib.hid hpl
          rw [hpl]
          clear hp hpi hpl HBP HW HB
          go_wp2_with fail
          go_loopw [69] (fun iv wr2 => ∃ q : Nat, iv = .int .i64 q ∧ q ≤ L.length ∧ wr2 = wr) (fun iv _ => L.length - (intOf iv).toNat)
          case atStart => exact ⟨0, rfl, Nat.zero_le _, rfl⟩
          case round =>
            obtain ⟨q, rfl, hq, rfl⟩ := hrel
            by_cases hlq : q < L.length
            · obtain ⟨ad, rfl, hcell⟩ := sl_ints hsp (j := q) (by have := HPL.out; omega)
              obtain ⟨k0, k1, k2⟩ := HPI.out q hlq
              obtain ⟨k, hk⟩ : ∃ k : Nat, p.getD q 0 = (k : Int) := ⟨(p.getD q 0).toNat, by omega⟩
              rw [hk] at hcell k1 k2
              rw [Int.toNat_natCast] at k2
              have hkl : k < L.length := by omega
              obtain ⟨ad2, rfl, hcell2⟩ := sl_ints hs1 hkl
              rw [k2] at hcell2
              clear k0 k2 hk
              go_wp2_with fail
              go_roundw
              case rel => exact ⟨q + 1, by go_num, by omega, trivial⟩
              case measure => simp [intOf]; omega
            · obtain rfl : q = L.length := by omega
              go_wp2_with fail
              refine (awake_yes _).mono ?_
              rintro e w5 ⟨rfl, hf5⟩
              go_wp2_with fail
              go_ret
              exact ⟨rfl, hf1.trans hf5⟩
        · clear HBP HW HB
          go_wp2_with fail
          go_loopw [69] (fun iv wr2 => iv = .int .i64 0 ∧ wr2 = wr) (fun iv _ => 0)
          case atStart => exact ⟨rfl, rfl⟩
          case round =>
            obtain ⟨rfl, rfl⟩ := hrel
            go_wp2_with fail
            refine (awake_yes _).mono ?_
            rintro e w5 ⟨rfl, hf5⟩
            go_wp2_with fail
            go_ret
            exact ⟨rfl, hf1.trans hf5⟩
end Go.Proofs.Ytgmnjbnlfpopgaa
