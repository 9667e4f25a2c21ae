/-
  TransTrains: the walk.
-/
import Derived.Test.YtaahigdkbmifbaaTransBack
namespace Go.Proofs.Ytaahigdkbmifbaa
open Go.RowKit

/-- A joiner and the segments. -/
structure TrSt (w W : World) (B gj : Nat) (v2 : Value) (frag : List Int) (seq : Int) (sj : JSt) : Prop where
  j : JAt W gj sj
  l : OwnBs B W v2 (splitF frag seq)
  b : Below w.heap.size w W
theorem TrSt.feed {w W W' : World} {B gj : Nat} {v2 : Value} {frag : List Int} {seq : Int} {sj s' : JSt} (h : TrSt w W B gj v2 frag seq sj) (hf : Fr (fun k => k = gj) W W') (hj : JAt W' gj s') (hlt : w.heap.size ≤ gj) : TrSt w W' B gj v2 frag seq s' :=
  ⟨hj, h.l.frJ h.j hf, h.b.trans (hf.belowB h.b.size (fun k hk => by omega))⟩

set_option maxRecDepth 20000 in
set_option maxHeartbeats 4000000 in
theorem trains_true (v : Value) (xss : List (List Int)) (seq : Int) (w : World) (h : RdBs w v xss) (hib : ∀ xs ∈ xss, IsB xs) :
    Calls Try.prog 5 #[v, .int .i64 seq] w fun e w' => e = .returned (.bool true) ∧ Below w.heap.size w w' := by
  obtain ⟨A, c, rfl, hc⟩ := h.form
  have Hr := Lib.hid h
  have Hi := Lib.hid hib
  clear h hib
  go_enter Try.func5, Try.ntmps5
  go_wp2_with fail
  refine (first_true _).mono ?_
  rintro e w1 ⟨rfl, hb1⟩
  have Hb1 := Lib.hid hb1
  clear hb1
  go_wp2_with fail
  refine (transNew _).mono ?_
  rintro e w2 ⟨rfl, hj2, hb2⟩
  have Hb2 := Lib.hid (below_next Hb1.out hb2)
  have Hj2 := Lib.hid hj2
  have hgj := Hb1.out.size
  clear hj2 hb2
  generalize w1.heap.size = gj at *
  by_cases h20 : 20 < xss.length
  · go_wp2_with (go_at_call 9; refine (first_true _).mono ?_; rintro e w9 ⟨rfl, hb9⟩)
    go_wp2_with fail
    go_ret
    exact ⟨rfl, below_next Hb2.out hb9⟩
  go_wp2_with fail
  refine (few_any _ xss _ (Hr.out.below Hb2.out)).mono ?_
  rintro e w3 ⟨⟨b, rfl, hbn⟩, rfl⟩
  clear hbn
  cases b with
  | false =>
    go_wp2_with (go_at_call 9; refine (first_true _).mono ?_; rintro e w9 ⟨rfl, hb9⟩)
    go_wp2_with fail
    go_ret
    exact ⟨rfl, below_next Hb2.out hb9⟩
  | true =>
    go_wp2_with fail
    go_loopg [1, 6] xss.length (fun g vq vi wr => ∃ (i : Nat) (sq : Int), i ≤ xss.length ∧ g = xss.length - i ∧ vi = .int .i64 i ∧ vq = .int .i64 sq ∧ JAt wr gj JSt.empty ∧ Below w.heap.size w wr)
    case atStart => exact ⟨0, seq, by omega, by omega, rfl, rfl, Hj2.out, Hb2.out⟩
    case round =>
      obtain ⟨i, sq, hi, hg, rfl, rfl, hj, hb⟩ := hrel
      have Hj := Lib.hid hj
      have Hb := Lib.hid hb
      clear hj hb
      by_cases hlt : i < xss.length
      · obtain ⟨g, o, rfl⟩ := Hr.out.at0 (by omega)
        obtain ⟨Ay, cy, ca, hseg⟩ := Hr.out.at i hlt
        have Hca := Lib.hid ca
        have ca := below_cell Hb.out ca
        have Hfr := Lib.hid hseg
        have Hib := Lib.hid (Hi.out _ (show xss.getD i [] ∈ xss by rw [List.getD_eq_getElem?_getD, List.getElem?_eq_getElem hlt]; exact List.getElem_mem _))
        clear hseg
        generalize xss.getD i [] = frag at *
        by_cases hbad : ¬ (1 ≤ frag.length ∧ frag.length ≤ 2048)
        · have Hbad := Lib.hid hbad
          clear hbad
          go_wp2_with fail
          refine (split_bad _ frag sq _ (Hfr.out.below Hb.out) Hbad.out).mono ?_
          rintro e w4 ⟨er, rfl, her, hb4⟩
          obtain ⟨te, ge, rfl⟩ := her.form
          have Hb4 := Lib.hid (below_next Hb.out hb4)
          have Hj4 := Lib.hid (Hj.out.below hb4)
          clear her hb4
          go_wp2_with fail
          go_roundg (xss.length - (i + 1))
          case measure => omega
          case rel => exact ⟨i + 1, sq, by omega, rfl, by go_num, rfl, Hj4.out, Hb4.out⟩
        have h1 : 1 ≤ frag.length := by omega
        have h2 : frag.length ≤ 2048 := by omega
        clear hbad
        go_wp2_with fail
        refine (split_ok _ frag sq _ (Hfr.out.below Hb.out) Hib.out h1 h2).mono ?_
        rintro e w4 ⟨v4, rfl, hown4, hb4⟩
        obtain ⟨A4, c4, rfl, _⟩ := hown4.form
        obtain ⟨g4, rfl⟩ := hown4.at0 h1
        have Hst4 := Lib.hid (show TrSt w w4 wr.heap.size gj (.slice (some ⟨g4, 0, none⟩) (splitF frag sq).length c4) frag sq (jst frag sq JSt.empty 0) from ⟨Hj.out.below hb4, hown4, below_next Hb.out hb4⟩)
        clear hown4 hb4 ca
        generalize wr.heap.size = B at *
        have hL1 := segN_pos h1
        have hL9 := segN_le h2
        rw [splitF_len]
        generalize hL : segN frag.length = L at *
        have HL := Lib.hid hL
        clear hL
        generalize (sq + (L : Int)) % 64 = nx at *
        go_wp2_with fail
        go_loopg [10] L (fun g vk wx => ∃ (k : Nat) (sj : JSt), k ≤ L ∧ g = L - k ∧ vk = .int .i64 k ∧ TrSt w wx B gj (.slice (some ⟨g4, 0, none⟩) (splitF frag sq).length c4) frag sq sj ∧ (k < L → sj = jst frag sq JSt.empty k) ∧ (k = L → sj = JSt.empty))
        case atStart => exact ⟨0, _, by omega, by omega, rfl, Hst4.out, fun _ => rfl, fun h => by omega⟩
        case round =>
          obtain ⟨k, sj, hk, hgk, rfl, hst, hmid, hend⟩ := hrel
          have Hst := Lib.hid hst
          have Hmid := Lib.hid hmid
          have Hend := Lib.hid hend
          clear hst hmid hend
          by_cases hkl : k < L
          · obtain ⟨gy, oy, cy2, cb, _, hseg⟩ := seg_at Hst.out.l k (by rw [HL.out]; exact hkl)
            have Hseg := Lib.hid hseg
            have Hib2 := Lib.hid (segF_isB Hib.out sq k)
            have Hsj := Lib.hid (Hmid.out hkl)
            clear hseg
            by_cases hq : k + 1 < L
            · have Hfd := Lib.hid (show feedF sj (segF frag sq k) = (jst frag sq JSt.empty (k + 1), [], false) by rw [Hsj.out]; exact feed_mid h2 (by rw [HL.out]; exact hq))
              have hbe : ((k : Int) == (L : Int) - 1) = false := beq_eq_false_iff_ne.2 (by omega)
              go_wp2_with fail
              refine (feed_any _ _ sj _ (segF frag sq k) Hst.out.j Hseg.out Hib2.out).mono ?_
              rintro e w6 ⟨r6, rfl, hown6, hj6, hf6⟩
              rw [Hfd.out] at hown6 hj6 ⊢
              obtain ⟨A6, c6, rfl, _⟩ := orow_form hown6
              have Hst6 := Lib.hid (Hst.out.feed hf6 hj6 hgj)
              clear hown6 hj6 hf6
              go_wp2_with fail
              go_roundg (L - (k + 1))
              case measure => omega
              case rel => exact ⟨k + 1, _, by omega, rfl, by go_num, Hst6.out, fun _ => rfl, fun h => by omega⟩
            · have hqL : k + 1 = L := by omega
              have Hfd := Lib.hid (show feedF sj (segF frag sq k) = (JSt.empty, frag, true) by rw [Hsj.out]; exact feed_end h1 h2 (by rw [HL.out]; exact hqL))
              have hbe : ((k : Int) == (L : Int) - 1) = true := beq_iff_eq.2 (by omega)
              go_wp2_with fail
              refine (feed_any _ _ sj _ (segF frag sq k) Hst.out.j Hseg.out Hib2.out).mono ?_
              rintro e w6 ⟨r6, rfl, hown6, hj6, hf6⟩
              rw [Hfd.out] at hown6 hj6 ⊢
              obtain ⟨A6, c6, rfl, _⟩ := orow_form hown6
              have Hst6 := Lib.hid (Hst.out.feed hf6 hj6 hgj)
              have Hr6 := Lib.hid (show RdB w6 _ frag from Rd1.of_own hown6)
              clear hown6 hj6 hf6
              have ca6 := below_cell Hst6.out.b Hca.out
              go_wp2_with fail
              refine (bytesEq _ _ frag frag _ Hr6.out (Hfr.out.below Hst6.out.b) Hib.out Hib.out).mono ?_
              rintro e w7 ⟨rfl, rfl⟩
              rw [show decide (frag = frag) = true from decide_eq_true rfl]
              go_wp2_with fail
              go_roundg (L - (k + 1))
              case measure => omega
              case rel => exact ⟨k + 1, _, by omega, rfl, by go_num, Hst6.out, fun h => by omega, fun _ => rfl⟩
          · have hkL : k = L := by omega
            have Hsj := Lib.hid (Hend.out hkL)
            clear hgk
            go_wp2_with fail
            go_roundg (xss.length - (i + 1))
            case measure => omega
            case rel => exact ⟨i + 1, nx, by omega, rfl, by go_num, rfl, by rw [← Hsj.out]; exact Hst.out.j, Hst.out.b⟩
      · go_wp2_with fail
        refine (first_true _).mono ?_
        rintro e w9 ⟨rfl, hb9⟩
        have Hj9 := Lib.hid (Hj.out.below hb9)
        have Hb9 := Lib.hid (below_next Hb.out hb9)
        clear hb9
        go_wp2_with fail
        refine (jOpen _ _ _ Hj9.out).mono ?_
        rintro e w8 ⟨rfl, rfl⟩
        rw [show JSt.empty.op = false from rfl]
        go_wp2_with fail
        go_ret
        exact ⟨rfl, Hb9.out⟩
end Go.Proofs.Ytaahigdkbmifbaa
