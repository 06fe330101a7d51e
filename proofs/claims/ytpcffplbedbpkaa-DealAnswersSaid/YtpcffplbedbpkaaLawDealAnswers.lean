/- The law DealAnswers answers true at every input. -/
import Derived.Test.YtpcffplbedbpkaaDealB
namespace Go.Proofs.Ytpcffplbedbpkaa
open Go Go.RowKit
noncomputable def C6 (p : List Nat) : Code := codeAt (bodyOf Try.f6) p
set_option maxRecDepth 100000 in
theorem DealAnswers_tr {W0 : World} (rk rl ri rs rt rh rn rd : Int) (a : Option Addr) (m cap : Nat) (xs : List Int) (node home : Int) (hm : m = xs.length) (hr : Reads W0 [] a (ints xs)) (hcap : m ≤ cap) : Tr Try.prog 6 #[.agg #[.int .i64 rk, .int .i64 rl, .int .i64 ri, .int .i64 rs, .int .i64 rt, .int .i64 rh, .int .i64 rn, .int .i64 rd, .slice a m cap], .int .i64 node, .int .i64 home] W0 ([]) (fun r _ => r = .bool true) := by
  refine Tr.enter (fn := Try.f6) (c := C6 []) (args := [.agg #[.int .i64 rk, .int .i64 rl, .int .i64 ri, .int .i64 rs, .int .i64 rt, .int .i64 rh, .int .i64 rn, .int .i64 rd, .slice a m cap], .int .i64 node, .int .i64 home]) 110 Try.func6 (by kernel_rfl) (by kernel_rfl) ?_
  refine At.env [(0, .agg #[.int .i64 rk, .int .i64 rl, .int .i64 ri, .int .i64 rs, .int .i64 rt, .int .i64 rh, .int .i64 rn, .int .i64 rd, .slice a m cap]), (1, .int .i64 node), (2, .int .i64 home)] ⟨by kernel_rfl, by kernel_rfl, by kernel_rfl, trivial⟩ ?_
  refine at_seq (x := C6 [0]) (y := C6 [1]) (by kernel_rfl) ?_
  refine at_region (id := 0) 2 (by kernel_rfl) (by kernel_rfl) ?_
  refine s_step 3 (by kernel_rfl) (by kernel_rfl) (st_new (T := 44) (cells := #[.int .i64 rk, .int .i64 rl, .int .i64 ri, .int .i64 rs, .int .i64 rt, .int .i64 rh, .int .i64 rn, .int .i64 rd, .slice a m cap]) (fun a => .pointer (some a)) (fun _ => by kernel_rfl)) ?_
  rintro _ _ ⟨b1, rfl, rfl⟩
  refine s_pure 6 (.bool false) (by kernel_rfl) (by kernel_rfl) (fun _ => by kernel_rfl) ?_
  refine ops_end ?_
  refine At.env [(0, .agg #[.int .i64 rk, .int .i64 rl, .int .i64 ri, .int .i64 rs, .int .i64 rt, .int .i64 rh, .int .i64 rn, .int .i64 rd, .slice a m cap]), (1, .int .i64 node), (2, .int .i64 home), (3, .pointer (some ⟨b1, 0, none⟩)), (6, .bool false)] ⟨by kernel_rfl, by kernel_rfl, by kernel_rfl, by kernel_rfl, by kernel_rfl, trivial⟩ ?_
  refine at_then_normal ?_
  refine at_seq (x := C6 [1, 0]) (y := C6 [1, 1]) (by kernel_rfl) ?_
  refine at_region (id := 1) 4 (by kernel_rfl) (by kernel_rfl) ?_
  refine s_load 11 (.agg #[.int .i64 rk, .int .i64 rl, .int .i64 ri, .int .i64 rs, .int .i64 rt, .int .i64 rh, .int .i64 rn, .int .i64 rd, .slice a m cap]) (by kernel_rfl) (by kernel_rfl) (loadN (off := 0) (vs := [.int .i64 rk, .int .i64 rl, .int .i64 ri, .int .i64 rs, .int .i64 rt, .int .i64 rh, .int .i64 rn, .int .i64 rd, .slice a m cap]) 9 (fun _ => by kernel_rfl) (holds_own .here) rfl (by exact ⟨rfl, rfl, rfl, rfl, rfl, rfl, rfl, rfl, rfl, trivial⟩)) ?_
  refine s_call 12 23 #[.agg #[.int .i64 rk, .int .i64 rl, .int .i64 ri, .int .i64 rs, .int .i64 rt, .int .i64 rh, .int .i64 rn, .int .i64 rd, .slice a m cap]] (by kernel_rfl) (by kernel_rfl) (fun _ => by kernel_rfl) (Deal13_ex rk rl ri rs rt rh rn rd a m cap xs (by first | exact hm | assumption) (Reads.conv (fun w hw => hw.less (.drop .here .refl)) hr) (by omega)) ?_
  rintro _ _ ⟨dk1, dl1, di1, ds1, dt1, dh1, dn1, dd1, a1, m1, c1, hd1, hd2, hd3, hd4, hd5, hd6, hd7, hd8, rfl, hm1, rfl⟩
  rcases Decidable.em (ds1 < (1 : Int)) with h1 | h1
  · refine s_step 7 (by kernel_rfl) (by kernel_rfl) (st_new (T := 36) (cells := #[.int .i64 (0), .int .i64 (0), .int .i64 (0), .int .i64 (0), .int .i64 (0), .int .i64 (0), .slice none 0 0, .int .i64 (0), .int .i64 (0)]) (fun a => .pointer (some a)) (fun _ => by kernel_rfl)) ?_
    rintro _ _ ⟨b2, rfl, rfl⟩
    refine s_do (by kernel_rfl) (by kernel_rfl) (st_store (off := 0) (vs := [.int .i64 dk1, .int .i64 dl1, .int .i64 di1, .int .i64 ds1, .int .i64 dt1, .int .i64 dh1, .slice a1 m1 c1, .int .i64 dn1, .int .i64 dd1]) (c' := #[.int .i64 dk1, .int .i64 dl1, .int .i64 di1, .int .i64 ds1, .int .i64 dt1, .int .i64 dh1, .slice a1 m1 c1, .int .i64 dn1, .int .i64 dd1]) (fun _ => by kernel_rfl) .here (by kernel_rfl) (by kernel_rfl) (by kernel_rfl)) ?_
    rintro _ _ ⟨rfl, rfl⟩
    refine ops_end ?_
    refine At.env [(0, .agg #[.int .i64 rk, .int .i64 rl, .int .i64 ri, .int .i64 rs, .int .i64 rt, .int .i64 rh, .int .i64 rn, .int .i64 rd, .slice a m cap]), (1, .int .i64 node), (2, .int .i64 home), (3, .pointer (some ⟨b1, 0, none⟩)), (6, .bool false), (7, .pointer (some ⟨b2, 0, none⟩))] ⟨by kernel_rfl, by kernel_rfl, by kernel_rfl, by kernel_rfl, by kernel_rfl, by kernel_rfl, trivial⟩ ?_
    refine at_then_normal ?_
    refine at_seq (x := C6 [1, 1, 0]) (y := C6 [1, 1, 1]) (by kernel_rfl) ?_
    refine at_region_draw (id := 2) (by kernel_rfl) (by kernel_rfl) ?_
    refine d_load 0 13 (.agg #[.int .i64 dk1, .int .i64 dl1, .int .i64 di1, .int .i64 ds1, .int .i64 dt1, .int .i64 dh1, .slice a1 m1 c1, .int .i64 dn1, .int .i64 dd1]) (by kernel_rfl) (by kernel_rfl) (by kernel_rfl) (loadN (off := 0) (vs := [.int .i64 dk1, .int .i64 dl1, .int .i64 di1, .int .i64 ds1, .int .i64 dt1, .int .i64 dh1, .slice a1 m1 c1, .int .i64 dn1, .int .i64 dd1]) 9 (fun _ => by kernel_rfl) (holds_own .here) rfl (by exact ⟨rfl, rfl, rfl, rfl, rfl, rfl, rfl, rfl, rfl, trivial⟩)) ?_
    refine d_pure 1 14 (.int .i64 node) (by kernel_rfl) (by kernel_rfl) (by kernel_rfl) (fun _ => by kernel_rfl) ?_
    refine d_quiet 2 15 (.int .i64 (node % 6)) 12 #[.int .i64 node, .int .i64 (6)] (by kernel_rfl) (by kernel_rfl) (by kernel_rfl) (fun _ => by kernel_rfl) (fun _ => (Within_tr (node) (6) (by omega) (by omega))) ?_
    refine d_pure 3 16 (.int .i64 home) (by kernel_rfl) (by kernel_rfl) (by kernel_rfl) (fun _ => by kernel_rfl) ?_
    refine d_quiet 4 17 (.int .i64 (home % 6)) 12 #[.int .i64 home, .int .i64 (6)] (by kernel_rfl) (by kernel_rfl) (by kernel_rfl) (fun _ => by kernel_rfl) (fun _ => (Within_tr (home) (6) (by omega) (by omega))) ?_
    refine draw_turns 5 [6] (by kernel_rfl) (turns_cons ?_ (turns_cons ?_ turns_nil))
    · refine t_call 5 18 [0, 2, 4, 1, 3] [] [] 20 #[.agg #[.int .i64 dk1, .int .i64 dl1, .int .i64 di1, .int .i64 ds1, .int .i64 dt1, .int .i64 dh1, .slice a1 m1 c1, .int .i64 dn1, .int .i64 dd1], .int .i64 (node % 6), .int .i64 (home % 6)] (by kernel_rfl) (by kernel_rfl) (by kernel_rfl) (fun _ => by kernel_rfl) (Ask_other ds1 (by omega) (by omega) (by omega) (by omega) (by omega) (by omega) dk1 dl1 di1 dt1 dh1 dn1 dd1 a1 m1 c1 (node % 6) (home % 6)) ?_
      rintro _ _ ⟨rfl, rfl⟩
      refine ⟨stable_nil, ?_⟩
      refine d_step 6 8 [] [] [] (by kernel_rfl) (by kernel_rfl) (by kernel_rfl) (st_new (T := 38) (cells := #[.int .i64 (0), .int .i64 (0), .int .i64 (0), .int .i64 (0), .int .i64 (0), .int .i64 (0), .int .i64 (0), .bool false, .slice none 0 0]) (fun a => .pointer (some a)) (fun _ => by kernel_rfl)) ?_
      rintro _ _ ⟨b3, rfl, rfl⟩
      refine ⟨stable_nil, ?_⟩
      refine d_do 7 [6, 5, 0, 1, 2, 3, 4] [] [] (by kernel_rfl) (by kernel_rfl) (by kernel_rfl) (st_store (off := 0) (vs := [.int .i64 (0), .int .i64 (0), .int .i64 (0), .int .i64 (0), .int .i64 (0), .int .i64 (0), .int .i64 (0), .bool false, .slice none 0 0]) (c' := #[.int .i64 (0), .int .i64 (0), .int .i64 (0), .int .i64 (0), .int .i64 (0), .int .i64 (0), .int .i64 (0), .bool false, .slice none 0 0]) (fun _ => by kernel_rfl) .here (by kernel_rfl) (by kernel_rfl) (by kernel_rfl)) ?_
      rintro _ _ ⟨rfl, rfl⟩
      refine ⟨stable_nil, ?_⟩
      refine draw_end (by kernel_rfl) ?_
      refine At.env [(0, .agg #[.int .i64 rk, .int .i64 rl, .int .i64 ri, .int .i64 rs, .int .i64 rt, .int .i64 rh, .int .i64 rn, .int .i64 rd, .slice a m cap]), (1, .int .i64 node), (2, .int .i64 home), (3, .pointer (some ⟨b1, 0, none⟩)), (6, .bool false), (7, .pointer (some ⟨b2, 0, none⟩)), (8, .pointer (some ⟨b3, 0, none⟩))] ⟨by kernel_rfl, by kernel_rfl, by kernel_rfl, by kernel_rfl, by kernel_rfl, by kernel_rfl, by kernel_rfl, trivial⟩ ?_
      refine at_then_normal ?_
      refine at_seq (x := C6 [1, 1, 1, 0]) (y := C6 [1, 1, 1, 1]) (by kernel_rfl) ?_
      refine at_seq (x := C6 [1, 1, 1, 0, 0]) (y := C6 [1, 1, 1, 0, 1]) (by kernel_rfl) ?_
      refine at_region (id := 3) 8 (by kernel_rfl) (by kernel_rfl) ?_
      refine s_pure 19 (.pointer (some ⟨b2, 3, none⟩)) (by kernel_rfl) (by kernel_rfl) (fun _ => by kernel_rfl) ?_
      refine s_load 20 (.int .i64 ds1) (by kernel_rfl) (by kernel_rfl) (load1 (off := 3) (fun _ => by kernel_rfl) (holds_own (.there .here)) (by kernel_rfl)) ?_
      refine s_pure 21 (.bool true) (by kernel_rfl) (by kernel_rfl) (run_eq (v := .bool (decide (ds1 < (1 : Int)))) (fun _ => by kernel_rfl) (congrArg Value.bool (by rw [decide_eq_true h1]))) ?_
      refine s_pure 22 (.bool true) (by kernel_rfl) (by kernel_rfl) (fun _ => by kernel_rfl) ?_
      refine s_pass 23 (by kernel_rfl) (by kernel_rfl) ?_
      refine s_pass 24 (by kernel_rfl) (by kernel_rfl) ?_
      refine s_pass 25 (by kernel_rfl) (by kernel_rfl) ?_
      refine s_pure 26 (.bool true) (by kernel_rfl) (by kernel_rfl) (fun _ => by kernel_rfl) ?_
      refine ops_end ?_
      refine At.env [(0, .agg #[.int .i64 rk, .int .i64 rl, .int .i64 ri, .int .i64 rs, .int .i64 rt, .int .i64 rh, .int .i64 rn, .int .i64 rd, .slice a m cap]), (1, .int .i64 node), (2, .int .i64 home), (3, .pointer (some ⟨b1, 0, none⟩)), (6, .bool false), (7, .pointer (some ⟨b2, 0, none⟩)), (8, .pointer (some ⟨b3, 0, none⟩)), (26, .bool true)] ⟨by kernel_rfl, by kernel_rfl, by kernel_rfl, by kernel_rfl, by kernel_rfl, by kernel_rfl, by kernel_rfl, by kernel_rfl, trivial⟩ ?_
      refine at_then_normal ?_
      refine at_true (t := true) (x := C6 [1, 1, 1, 0, 1, 0]) (y := C6 [1, 1, 1, 0, 1, 1]) (o := .tmp 26) (by kernel_rfl) (by kernel_rfl) (by kernel_rfl) rfl ?_
      refine at_seq (x := C6 [1, 1, 1, 0, 1, 0, 0]) (y := C6 [1, 1, 1, 0, 1, 0, 1]) (by kernel_rfl) ?_
      refine at_region (id := 4) 17 (by kernel_rfl) (by kernel_rfl) ?_
      refine s_pure 27 (.pointer (some ⟨b3, 0, none⟩)) (by kernel_rfl) (by kernel_rfl) (fun _ => by kernel_rfl) ?_
      refine s_load 28 (.int .i64 (0)) (by kernel_rfl) (by kernel_rfl) (load1 (off := 0) (fun _ => by kernel_rfl) (holds_own .here) (by kernel_rfl)) ?_
      refine s_pure 29 (.bool true) (by kernel_rfl) (by kernel_rfl) (fun _ => by kernel_rfl) ?_
      refine s_pure 30 (.bool true) (by kernel_rfl) (by kernel_rfl) (fun _ => by kernel_rfl) ?_
      refine s_load 31 (.agg #[.int .i64 dk1, .int .i64 dl1, .int .i64 di1, .int .i64 ds1, .int .i64 dt1, .int .i64 dh1, .slice a1 m1 c1, .int .i64 dn1, .int .i64 dd1]) (by kernel_rfl) (by kernel_rfl) (loadN (off := 0) (vs := [.int .i64 dk1, .int .i64 dl1, .int .i64 di1, .int .i64 ds1, .int .i64 dt1, .int .i64 dh1, .slice a1 m1 c1, .int .i64 dn1, .int .i64 dd1]) 9 (fun _ => by kernel_rfl) (holds_own (.there .here)) rfl (by exact ⟨rfl, rfl, rfl, rfl, rfl, rfl, rfl, rfl, rfl, trivial⟩)) ?_
      refine s_pure 32 (.pointer (some ⟨b2, 2, none⟩)) (by kernel_rfl) (by kernel_rfl) (fun _ => by kernel_rfl) ?_
      refine s_load 33 (.int .i64 di1) (by kernel_rfl) (by kernel_rfl) (load1 (off := 2) (fun _ => by kernel_rfl) (holds_own (.there .here)) (by kernel_rfl)) ?_
      refine s_pure 34 (.pointer (some ⟨b2, 1, none⟩)) (by kernel_rfl) (by kernel_rfl) (fun _ => by kernel_rfl) ?_
      refine s_load 35 (.int .i64 dl1) (by kernel_rfl) (by kernel_rfl) (load1 (off := 1) (fun _ => by kernel_rfl) (holds_own (.there .here)) (by kernel_rfl)) ?_
      refine s_pure 36 (.agg #[.int .i64 (0), .int .i64 (0), .int .i64 (0), .int .i64 di1, .int .i64 dl1, .int .i64 (0), .int .i64 (0), .bool false, .slice none 0 0]) (by kernel_rfl) (by kernel_rfl) (fun _ => by kernel_rfl) ?_
      refine s_quiet 37 (.bool false) 27 #[.agg #[.int .i64 dk1, .int .i64 dl1, .int .i64 di1, .int .i64 ds1, .int .i64 dt1, .int .i64 dh1, .slice a1 m1 c1, .int .i64 dn1, .int .i64 dd1], .agg #[.int .i64 (0), .int .i64 (0), .int .i64 (0), .int .i64 di1, .int .i64 dl1, .int .i64 (0), .int .i64 (0), .bool false, .slice none 0 0]] (by kernel_rfl) (by kernel_rfl) (fun _ => by kernel_rfl) (Tr.as (Fits_tr ds1 dk1 dl1 di1 dt1 dh1 dn1 dd1 a1 m1 c1 (0) (0) (0) di1 dl1 (0) (0) false none 0 0) (congrArg Value.bool (show fitsB ds1 di1 dl1 (0) di1 dl1 = false from fits_not (by omega)))) ?_
      refine s_pure 38 (.bool true) (by kernel_rfl) (by kernel_rfl) (fun _ => by kernel_rfl) ?_
      refine s_pure 39 (.bool true) (by kernel_rfl) (by kernel_rfl) (fun _ => by kernel_rfl) ?_
      refine s_pure 40 (.bool true) (by kernel_rfl) (by kernel_rfl) (fun _ => by kernel_rfl) ?_
      refine s_quiet 41 (.bool true) 22 #[] (by kernel_rfl) (by kernel_rfl) (fun _ => by kernel_rfl) Wakes_tr ?_
      refine s_pure 42 (.bool true) (by kernel_rfl) (by kernel_rfl) (fun _ => by kernel_rfl) ?_
      refine s_pure 6 (.bool true) (by kernel_rfl) (by kernel_rfl) (fun _ => by kernel_rfl) ?_
      refine ops_end ?_
      refine At.env [(0, .agg #[.int .i64 rk, .int .i64 rl, .int .i64 ri, .int .i64 rs, .int .i64 rt, .int .i64 rh, .int .i64 rn, .int .i64 rd, .slice a m cap]), (1, .int .i64 node), (2, .int .i64 home), (3, .pointer (some ⟨b1, 0, none⟩)), (6, .bool true), (7, .pointer (some ⟨b2, 0, none⟩)), (8, .pointer (some ⟨b3, 0, none⟩)), (26, .bool true)] ⟨by kernel_rfl, by kernel_rfl, by kernel_rfl, by kernel_rfl, by kernel_rfl, by kernel_rfl, by kernel_rfl, by kernel_rfl, trivial⟩ ?_
      refine at_then_normal ?_
      refine at_ret (by kernel_rfl) ?_
      refine at_then_ret ?_
      refine at_backR [.bool true] [] (rs := [.tmp 6]) (by kernel_rfl) (.cons (.tmp (by kernel_rfl)) .nil) (fun w hw => hw.less (.drop .here (.drop .here (.drop .here (.drop .here .refl))))) rfl
    · refine t_step 6 8 [] [4, 3, 2, 1] [0] (by kernel_rfl) (by kernel_rfl) (by kernel_rfl) (st_new (T := 38) (cells := #[.int .i64 (0), .int .i64 (0), .int .i64 (0), .int .i64 (0), .int .i64 (0), .int .i64 (0), .int .i64 (0), .bool false, .slice none 0 0]) (fun a => .pointer (some a)) (fun _ => by kernel_rfl)) ?_
      rintro _ _ ⟨b4, rfl, rfl⟩
      refine ⟨(stable_cons 0 13 (.agg #[.int .i64 dk1, .int .i64 dl1, .int .i64 di1, .int .i64 ds1, .int .i64 dt1, .int .i64 dh1, .slice a1 m1 c1, .int .i64 dn1, .int .i64 dd1]) (by kernel_rfl) (by kernel_rfl) (by kernel_rfl) (loadN (off := 0) (vs := [.int .i64 dk1, .int .i64 dl1, .int .i64 di1, .int .i64 ds1, .int .i64 dt1, .int .i64 dh1, .slice a1 m1 c1, .int .i64 dn1, .int .i64 dd1]) 9 (fun _ => by kernel_rfl) (holds_own (.there .here)) rfl (by exact ⟨rfl, rfl, rfl, rfl, rfl, rfl, rfl, rfl, rfl, trivial⟩)) stable_nil), ?_⟩
      refine d_call 5 18 [0, 2, 4, 1, 3] [] [] 20 #[.agg #[.int .i64 dk1, .int .i64 dl1, .int .i64 di1, .int .i64 ds1, .int .i64 dt1, .int .i64 dh1, .slice a1 m1 c1, .int .i64 dn1, .int .i64 dd1], .int .i64 (node % 6), .int .i64 (home % 6)] (by kernel_rfl) (by kernel_rfl) (by kernel_rfl) (fun _ => by kernel_rfl) (Ask_other ds1 (by omega) (by omega) (by omega) (by omega) (by omega) (by omega) dk1 dl1 di1 dt1 dh1 dn1 dd1 a1 m1 c1 (node % 6) (home % 6)) ?_
      rintro _ _ ⟨rfl, rfl⟩
      refine ⟨stable_nil, ?_⟩
      refine d_do 7 [6, 5, 0, 1, 2, 3, 4] [] [] (by kernel_rfl) (by kernel_rfl) (by kernel_rfl) (st_store (off := 0) (vs := [.int .i64 (0), .int .i64 (0), .int .i64 (0), .int .i64 (0), .int .i64 (0), .int .i64 (0), .int .i64 (0), .bool false, .slice none 0 0]) (c' := #[.int .i64 (0), .int .i64 (0), .int .i64 (0), .int .i64 (0), .int .i64 (0), .int .i64 (0), .int .i64 (0), .bool false, .slice none 0 0]) (fun _ => by kernel_rfl) .here (by kernel_rfl) (by kernel_rfl) (by kernel_rfl)) ?_
      rintro _ _ ⟨rfl, rfl⟩
      refine ⟨stable_nil, ?_⟩
      refine draw_end (by kernel_rfl) ?_
      refine At.env [(0, .agg #[.int .i64 rk, .int .i64 rl, .int .i64 ri, .int .i64 rs, .int .i64 rt, .int .i64 rh, .int .i64 rn, .int .i64 rd, .slice a m cap]), (1, .int .i64 node), (2, .int .i64 home), (3, .pointer (some ⟨b1, 0, none⟩)), (6, .bool false), (7, .pointer (some ⟨b2, 0, none⟩)), (8, .pointer (some ⟨b4, 0, none⟩))] ⟨by kernel_rfl, by kernel_rfl, by kernel_rfl, by kernel_rfl, by kernel_rfl, by kernel_rfl, by kernel_rfl, trivial⟩ ?_
      refine at_then_normal ?_
      refine at_seq (x := C6 [1, 1, 1, 0]) (y := C6 [1, 1, 1, 1]) (by kernel_rfl) ?_
      refine at_seq (x := C6 [1, 1, 1, 0, 0]) (y := C6 [1, 1, 1, 0, 1]) (by kernel_rfl) ?_
      refine at_region (id := 3) 8 (by kernel_rfl) (by kernel_rfl) ?_
      refine s_pure 19 (.pointer (some ⟨b2, 3, none⟩)) (by kernel_rfl) (by kernel_rfl) (fun _ => by kernel_rfl) ?_
      refine s_load 20 (.int .i64 ds1) (by kernel_rfl) (by kernel_rfl) (load1 (off := 3) (fun _ => by kernel_rfl) (holds_own (.there .here)) (by kernel_rfl)) ?_
      refine s_pure 21 (.bool true) (by kernel_rfl) (by kernel_rfl) (run_eq (v := .bool (decide (ds1 < (1 : Int)))) (fun _ => by kernel_rfl) (congrArg Value.bool (by rw [decide_eq_true h1]))) ?_
      refine s_pure 22 (.bool true) (by kernel_rfl) (by kernel_rfl) (fun _ => by kernel_rfl) ?_
      refine s_pass 23 (by kernel_rfl) (by kernel_rfl) ?_
      refine s_pass 24 (by kernel_rfl) (by kernel_rfl) ?_
      refine s_pass 25 (by kernel_rfl) (by kernel_rfl) ?_
      refine s_pure 26 (.bool true) (by kernel_rfl) (by kernel_rfl) (fun _ => by kernel_rfl) ?_
      refine ops_end ?_
      refine At.env [(0, .agg #[.int .i64 rk, .int .i64 rl, .int .i64 ri, .int .i64 rs, .int .i64 rt, .int .i64 rh, .int .i64 rn, .int .i64 rd, .slice a m cap]), (1, .int .i64 node), (2, .int .i64 home), (3, .pointer (some ⟨b1, 0, none⟩)), (6, .bool false), (7, .pointer (some ⟨b2, 0, none⟩)), (8, .pointer (some ⟨b4, 0, none⟩)), (26, .bool true)] ⟨by kernel_rfl, by kernel_rfl, by kernel_rfl, by kernel_rfl, by kernel_rfl, by kernel_rfl, by kernel_rfl, by kernel_rfl, trivial⟩ ?_
      refine at_then_normal ?_
      refine at_true (t := true) (x := C6 [1, 1, 1, 0, 1, 0]) (y := C6 [1, 1, 1, 0, 1, 1]) (o := .tmp 26) (by kernel_rfl) (by kernel_rfl) (by kernel_rfl) rfl ?_
      refine at_seq (x := C6 [1, 1, 1, 0, 1, 0, 0]) (y := C6 [1, 1, 1, 0, 1, 0, 1]) (by kernel_rfl) ?_
      refine at_region (id := 4) 17 (by kernel_rfl) (by kernel_rfl) ?_
      refine s_pure 27 (.pointer (some ⟨b4, 0, none⟩)) (by kernel_rfl) (by kernel_rfl) (fun _ => by kernel_rfl) ?_
      refine s_load 28 (.int .i64 (0)) (by kernel_rfl) (by kernel_rfl) (load1 (off := 0) (fun _ => by kernel_rfl) (holds_own .here) (by kernel_rfl)) ?_
      refine s_pure 29 (.bool true) (by kernel_rfl) (by kernel_rfl) (fun _ => by kernel_rfl) ?_
      refine s_pure 30 (.bool true) (by kernel_rfl) (by kernel_rfl) (fun _ => by kernel_rfl) ?_
      refine s_load 31 (.agg #[.int .i64 dk1, .int .i64 dl1, .int .i64 di1, .int .i64 ds1, .int .i64 dt1, .int .i64 dh1, .slice a1 m1 c1, .int .i64 dn1, .int .i64 dd1]) (by kernel_rfl) (by kernel_rfl) (loadN (off := 0) (vs := [.int .i64 dk1, .int .i64 dl1, .int .i64 di1, .int .i64 ds1, .int .i64 dt1, .int .i64 dh1, .slice a1 m1 c1, .int .i64 dn1, .int .i64 dd1]) 9 (fun _ => by kernel_rfl) (holds_own (.there .here)) rfl (by exact ⟨rfl, rfl, rfl, rfl, rfl, rfl, rfl, rfl, rfl, trivial⟩)) ?_
      refine s_pure 32 (.pointer (some ⟨b2, 2, none⟩)) (by kernel_rfl) (by kernel_rfl) (fun _ => by kernel_rfl) ?_
      refine s_load 33 (.int .i64 di1) (by kernel_rfl) (by kernel_rfl) (load1 (off := 2) (fun _ => by kernel_rfl) (holds_own (.there .here)) (by kernel_rfl)) ?_
      refine s_pure 34 (.pointer (some ⟨b2, 1, none⟩)) (by kernel_rfl) (by kernel_rfl) (fun _ => by kernel_rfl) ?_
      refine s_load 35 (.int .i64 dl1) (by kernel_rfl) (by kernel_rfl) (load1 (off := 1) (fun _ => by kernel_rfl) (holds_own (.there .here)) (by kernel_rfl)) ?_
      refine s_pure 36 (.agg #[.int .i64 (0), .int .i64 (0), .int .i64 (0), .int .i64 di1, .int .i64 dl1, .int .i64 (0), .int .i64 (0), .bool false, .slice none 0 0]) (by kernel_rfl) (by kernel_rfl) (fun _ => by kernel_rfl) ?_
      refine s_quiet 37 (.bool false) 27 #[.agg #[.int .i64 dk1, .int .i64 dl1, .int .i64 di1, .int .i64 ds1, .int .i64 dt1, .int .i64 dh1, .slice a1 m1 c1, .int .i64 dn1, .int .i64 dd1], .agg #[.int .i64 (0), .int .i64 (0), .int .i64 (0), .int .i64 di1, .int .i64 dl1, .int .i64 (0), .int .i64 (0), .bool false, .slice none 0 0]] (by kernel_rfl) (by kernel_rfl) (fun _ => by kernel_rfl) (Tr.as (Fits_tr ds1 dk1 dl1 di1 dt1 dh1 dn1 dd1 a1 m1 c1 (0) (0) (0) di1 dl1 (0) (0) false none 0 0) (congrArg Value.bool (show fitsB ds1 di1 dl1 (0) di1 dl1 = false from fits_not (by omega)))) ?_
      refine s_pure 38 (.bool true) (by kernel_rfl) (by kernel_rfl) (fun _ => by kernel_rfl) ?_
      refine s_pure 39 (.bool true) (by kernel_rfl) (by kernel_rfl) (fun _ => by kernel_rfl) ?_
      refine s_pure 40 (.bool true) (by kernel_rfl) (by kernel_rfl) (fun _ => by kernel_rfl) ?_
      refine s_quiet 41 (.bool true) 22 #[] (by kernel_rfl) (by kernel_rfl) (fun _ => by kernel_rfl) Wakes_tr ?_
      refine s_pure 42 (.bool true) (by kernel_rfl) (by kernel_rfl) (fun _ => by kernel_rfl) ?_
      refine s_pure 6 (.bool true) (by kernel_rfl) (by kernel_rfl) (fun _ => by kernel_rfl) ?_
      refine ops_end ?_
      refine At.env [(0, .agg #[.int .i64 rk, .int .i64 rl, .int .i64 ri, .int .i64 rs, .int .i64 rt, .int .i64 rh, .int .i64 rn, .int .i64 rd, .slice a m cap]), (1, .int .i64 node), (2, .int .i64 home), (3, .pointer (some ⟨b1, 0, none⟩)), (6, .bool true), (7, .pointer (some ⟨b2, 0, none⟩)), (8, .pointer (some ⟨b4, 0, none⟩)), (26, .bool true)] ⟨by kernel_rfl, by kernel_rfl, by kernel_rfl, by kernel_rfl, by kernel_rfl, by kernel_rfl, by kernel_rfl, by kernel_rfl, trivial⟩ ?_
      refine at_then_normal ?_
      refine at_ret (by kernel_rfl) ?_
      refine at_then_ret ?_
      refine at_backR [.bool true] [] (rs := [.tmp 6]) (by kernel_rfl) (.cons (.tmp (by kernel_rfl)) .nil) (fun w hw => hw.less (.drop .here (.drop .here (.drop .here (.drop .here .refl))))) rfl
  · rcases Decidable.em ((6 : Int) < ds1) with h2 | h2
    · refine s_step 7 (by kernel_rfl) (by kernel_rfl) (st_new (T := 36) (cells := #[.int .i64 (0), .int .i64 (0), .int .i64 (0), .int .i64 (0), .int .i64 (0), .int .i64 (0), .slice none 0 0, .int .i64 (0), .int .i64 (0)]) (fun a => .pointer (some a)) (fun _ => by kernel_rfl)) ?_
      rintro _ _ ⟨b5, rfl, rfl⟩
      refine s_do (by kernel_rfl) (by kernel_rfl) (st_store (off := 0) (vs := [.int .i64 dk1, .int .i64 dl1, .int .i64 di1, .int .i64 ds1, .int .i64 dt1, .int .i64 dh1, .slice a1 m1 c1, .int .i64 dn1, .int .i64 dd1]) (c' := #[.int .i64 dk1, .int .i64 dl1, .int .i64 di1, .int .i64 ds1, .int .i64 dt1, .int .i64 dh1, .slice a1 m1 c1, .int .i64 dn1, .int .i64 dd1]) (fun _ => by kernel_rfl) .here (by kernel_rfl) (by kernel_rfl) (by kernel_rfl)) ?_
      rintro _ _ ⟨rfl, rfl⟩
      refine ops_end ?_
      refine At.env [(0, .agg #[.int .i64 rk, .int .i64 rl, .int .i64 ri, .int .i64 rs, .int .i64 rt, .int .i64 rh, .int .i64 rn, .int .i64 rd, .slice a m cap]), (1, .int .i64 node), (2, .int .i64 home), (3, .pointer (some ⟨b1, 0, none⟩)), (6, .bool false), (7, .pointer (some ⟨b5, 0, none⟩))] ⟨by kernel_rfl, by kernel_rfl, by kernel_rfl, by kernel_rfl, by kernel_rfl, by kernel_rfl, trivial⟩ ?_
      refine at_then_normal ?_
      refine at_seq (x := C6 [1, 1, 0]) (y := C6 [1, 1, 1]) (by kernel_rfl) ?_
      refine at_region_draw (id := 2) (by kernel_rfl) (by kernel_rfl) ?_
      refine d_load 0 13 (.agg #[.int .i64 dk1, .int .i64 dl1, .int .i64 di1, .int .i64 ds1, .int .i64 dt1, .int .i64 dh1, .slice a1 m1 c1, .int .i64 dn1, .int .i64 dd1]) (by kernel_rfl) (by kernel_rfl) (by kernel_rfl) (loadN (off := 0) (vs := [.int .i64 dk1, .int .i64 dl1, .int .i64 di1, .int .i64 ds1, .int .i64 dt1, .int .i64 dh1, .slice a1 m1 c1, .int .i64 dn1, .int .i64 dd1]) 9 (fun _ => by kernel_rfl) (holds_own .here) rfl (by exact ⟨rfl, rfl, rfl, rfl, rfl, rfl, rfl, rfl, rfl, trivial⟩)) ?_
      refine d_pure 1 14 (.int .i64 node) (by kernel_rfl) (by kernel_rfl) (by kernel_rfl) (fun _ => by kernel_rfl) ?_
      refine d_quiet 2 15 (.int .i64 (node % 6)) 12 #[.int .i64 node, .int .i64 (6)] (by kernel_rfl) (by kernel_rfl) (by kernel_rfl) (fun _ => by kernel_rfl) (fun _ => (Within_tr (node) (6) (by omega) (by omega))) ?_
      refine d_pure 3 16 (.int .i64 home) (by kernel_rfl) (by kernel_rfl) (by kernel_rfl) (fun _ => by kernel_rfl) ?_
      refine d_quiet 4 17 (.int .i64 (home % 6)) 12 #[.int .i64 home, .int .i64 (6)] (by kernel_rfl) (by kernel_rfl) (by kernel_rfl) (fun _ => by kernel_rfl) (fun _ => (Within_tr (home) (6) (by omega) (by omega))) ?_
      refine draw_turns 5 [6] (by kernel_rfl) (turns_cons ?_ (turns_cons ?_ turns_nil))
      · refine t_call 5 18 [0, 2, 4, 1, 3] [] [] 20 #[.agg #[.int .i64 dk1, .int .i64 dl1, .int .i64 di1, .int .i64 ds1, .int .i64 dt1, .int .i64 dh1, .slice a1 m1 c1, .int .i64 dn1, .int .i64 dd1], .int .i64 (node % 6), .int .i64 (home % 6)] (by kernel_rfl) (by kernel_rfl) (by kernel_rfl) (fun _ => by kernel_rfl) (Ask_other ds1 (by omega) (by omega) (by omega) (by omega) (by omega) (by omega) dk1 dl1 di1 dt1 dh1 dn1 dd1 a1 m1 c1 (node % 6) (home % 6)) ?_
        rintro _ _ ⟨rfl, rfl⟩
        refine ⟨stable_nil, ?_⟩
        refine d_step 6 8 [] [] [] (by kernel_rfl) (by kernel_rfl) (by kernel_rfl) (st_new (T := 38) (cells := #[.int .i64 (0), .int .i64 (0), .int .i64 (0), .int .i64 (0), .int .i64 (0), .int .i64 (0), .int .i64 (0), .bool false, .slice none 0 0]) (fun a => .pointer (some a)) (fun _ => by kernel_rfl)) ?_
        rintro _ _ ⟨b6, rfl, rfl⟩
        refine ⟨stable_nil, ?_⟩
        refine d_do 7 [6, 5, 0, 1, 2, 3, 4] [] [] (by kernel_rfl) (by kernel_rfl) (by kernel_rfl) (st_store (off := 0) (vs := [.int .i64 (0), .int .i64 (0), .int .i64 (0), .int .i64 (0), .int .i64 (0), .int .i64 (0), .int .i64 (0), .bool false, .slice none 0 0]) (c' := #[.int .i64 (0), .int .i64 (0), .int .i64 (0), .int .i64 (0), .int .i64 (0), .int .i64 (0), .int .i64 (0), .bool false, .slice none 0 0]) (fun _ => by kernel_rfl) .here (by kernel_rfl) (by kernel_rfl) (by kernel_rfl)) ?_
        rintro _ _ ⟨rfl, rfl⟩
        refine ⟨stable_nil, ?_⟩
        refine draw_end (by kernel_rfl) ?_
        refine At.env [(0, .agg #[.int .i64 rk, .int .i64 rl, .int .i64 ri, .int .i64 rs, .int .i64 rt, .int .i64 rh, .int .i64 rn, .int .i64 rd, .slice a m cap]), (1, .int .i64 node), (2, .int .i64 home), (3, .pointer (some ⟨b1, 0, none⟩)), (6, .bool false), (7, .pointer (some ⟨b5, 0, none⟩)), (8, .pointer (some ⟨b6, 0, none⟩))] ⟨by kernel_rfl, by kernel_rfl, by kernel_rfl, by kernel_rfl, by kernel_rfl, by kernel_rfl, by kernel_rfl, trivial⟩ ?_
        refine at_then_normal ?_
        refine at_seq (x := C6 [1, 1, 1, 0]) (y := C6 [1, 1, 1, 1]) (by kernel_rfl) ?_
        refine at_seq (x := C6 [1, 1, 1, 0, 0]) (y := C6 [1, 1, 1, 0, 1]) (by kernel_rfl) ?_
        refine at_region (id := 3) 8 (by kernel_rfl) (by kernel_rfl) ?_
        refine s_pure 19 (.pointer (some ⟨b5, 3, none⟩)) (by kernel_rfl) (by kernel_rfl) (fun _ => by kernel_rfl) ?_
        refine s_load 20 (.int .i64 ds1) (by kernel_rfl) (by kernel_rfl) (load1 (off := 3) (fun _ => by kernel_rfl) (holds_own (.there .here)) (by kernel_rfl)) ?_
        refine s_pure 21 (.bool false) (by kernel_rfl) (by kernel_rfl) (run_eq (v := .bool (decide (ds1 < (1 : Int)))) (fun _ => by kernel_rfl) (congrArg Value.bool (by rw [decide_eq_false h1]))) ?_
        refine s_pure 22 (.bool false) (by kernel_rfl) (by kernel_rfl) (fun _ => by kernel_rfl) ?_
        refine s_pure 23 (.pointer (some ⟨b5, 3, none⟩)) (by kernel_rfl) (by kernel_rfl) (fun _ => by kernel_rfl) ?_
        refine s_load 24 (.int .i64 ds1) (by kernel_rfl) (by kernel_rfl) (load1 (off := 3) (fun _ => by kernel_rfl) (holds_own (.there .here)) (by kernel_rfl)) ?_
        refine s_pure 25 (.bool true) (by kernel_rfl) (by kernel_rfl) (run_eq (v := .bool (decide ((6 : Int) < ds1))) (fun _ => by kernel_rfl) (congrArg Value.bool (by rw [decide_eq_true h2]))) ?_
        refine s_pure 26 (.bool true) (by kernel_rfl) (by kernel_rfl) (fun _ => by kernel_rfl) ?_
        refine ops_end ?_
        refine At.env [(0, .agg #[.int .i64 rk, .int .i64 rl, .int .i64 ri, .int .i64 rs, .int .i64 rt, .int .i64 rh, .int .i64 rn, .int .i64 rd, .slice a m cap]), (1, .int .i64 node), (2, .int .i64 home), (3, .pointer (some ⟨b1, 0, none⟩)), (6, .bool false), (7, .pointer (some ⟨b5, 0, none⟩)), (8, .pointer (some ⟨b6, 0, none⟩)), (26, .bool true)] ⟨by kernel_rfl, by kernel_rfl, by kernel_rfl, by kernel_rfl, by kernel_rfl, by kernel_rfl, by kernel_rfl, by kernel_rfl, trivial⟩ ?_
        refine at_then_normal ?_
        refine at_true (t := true) (x := C6 [1, 1, 1, 0, 1, 0]) (y := C6 [1, 1, 1, 0, 1, 1]) (o := .tmp 26) (by kernel_rfl) (by kernel_rfl) (by kernel_rfl) rfl ?_
        refine at_seq (x := C6 [1, 1, 1, 0, 1, 0, 0]) (y := C6 [1, 1, 1, 0, 1, 0, 1]) (by kernel_rfl) ?_
        refine at_region (id := 4) 17 (by kernel_rfl) (by kernel_rfl) ?_
        refine s_pure 27 (.pointer (some ⟨b6, 0, none⟩)) (by kernel_rfl) (by kernel_rfl) (fun _ => by kernel_rfl) ?_
        refine s_load 28 (.int .i64 (0)) (by kernel_rfl) (by kernel_rfl) (load1 (off := 0) (fun _ => by kernel_rfl) (holds_own .here) (by kernel_rfl)) ?_
        refine s_pure 29 (.bool true) (by kernel_rfl) (by kernel_rfl) (fun _ => by kernel_rfl) ?_
        refine s_pure 30 (.bool true) (by kernel_rfl) (by kernel_rfl) (fun _ => by kernel_rfl) ?_
        refine s_load 31 (.agg #[.int .i64 dk1, .int .i64 dl1, .int .i64 di1, .int .i64 ds1, .int .i64 dt1, .int .i64 dh1, .slice a1 m1 c1, .int .i64 dn1, .int .i64 dd1]) (by kernel_rfl) (by kernel_rfl) (loadN (off := 0) (vs := [.int .i64 dk1, .int .i64 dl1, .int .i64 di1, .int .i64 ds1, .int .i64 dt1, .int .i64 dh1, .slice a1 m1 c1, .int .i64 dn1, .int .i64 dd1]) 9 (fun _ => by kernel_rfl) (holds_own (.there .here)) rfl (by exact ⟨rfl, rfl, rfl, rfl, rfl, rfl, rfl, rfl, rfl, trivial⟩)) ?_
        refine s_pure 32 (.pointer (some ⟨b5, 2, none⟩)) (by kernel_rfl) (by kernel_rfl) (fun _ => by kernel_rfl) ?_
        refine s_load 33 (.int .i64 di1) (by kernel_rfl) (by kernel_rfl) (load1 (off := 2) (fun _ => by kernel_rfl) (holds_own (.there .here)) (by kernel_rfl)) ?_
        refine s_pure 34 (.pointer (some ⟨b5, 1, none⟩)) (by kernel_rfl) (by kernel_rfl) (fun _ => by kernel_rfl) ?_
        refine s_load 35 (.int .i64 dl1) (by kernel_rfl) (by kernel_rfl) (load1 (off := 1) (fun _ => by kernel_rfl) (holds_own (.there .here)) (by kernel_rfl)) ?_
        refine s_pure 36 (.agg #[.int .i64 (0), .int .i64 (0), .int .i64 (0), .int .i64 di1, .int .i64 dl1, .int .i64 (0), .int .i64 (0), .bool false, .slice none 0 0]) (by kernel_rfl) (by kernel_rfl) (fun _ => by kernel_rfl) ?_
        refine s_quiet 37 (.bool false) 27 #[.agg #[.int .i64 dk1, .int .i64 dl1, .int .i64 di1, .int .i64 ds1, .int .i64 dt1, .int .i64 dh1, .slice a1 m1 c1, .int .i64 dn1, .int .i64 dd1], .agg #[.int .i64 (0), .int .i64 (0), .int .i64 (0), .int .i64 di1, .int .i64 dl1, .int .i64 (0), .int .i64 (0), .bool false, .slice none 0 0]] (by kernel_rfl) (by kernel_rfl) (fun _ => by kernel_rfl) (Tr.as (Fits_tr ds1 dk1 dl1 di1 dt1 dh1 dn1 dd1 a1 m1 c1 (0) (0) (0) di1 dl1 (0) (0) false none 0 0) (congrArg Value.bool (show fitsB ds1 di1 dl1 (0) di1 dl1 = false from fits_not (by omega)))) ?_
        refine s_pure 38 (.bool true) (by kernel_rfl) (by kernel_rfl) (fun _ => by kernel_rfl) ?_
        refine s_pure 39 (.bool true) (by kernel_rfl) (by kernel_rfl) (fun _ => by kernel_rfl) ?_
        refine s_pure 40 (.bool true) (by kernel_rfl) (by kernel_rfl) (fun _ => by kernel_rfl) ?_
        refine s_quiet 41 (.bool true) 22 #[] (by kernel_rfl) (by kernel_rfl) (fun _ => by kernel_rfl) Wakes_tr ?_
        refine s_pure 42 (.bool true) (by kernel_rfl) (by kernel_rfl) (fun _ => by kernel_rfl) ?_
        refine s_pure 6 (.bool true) (by kernel_rfl) (by kernel_rfl) (fun _ => by kernel_rfl) ?_
        refine ops_end ?_
        refine At.env [(0, .agg #[.int .i64 rk, .int .i64 rl, .int .i64 ri, .int .i64 rs, .int .i64 rt, .int .i64 rh, .int .i64 rn, .int .i64 rd, .slice a m cap]), (1, .int .i64 node), (2, .int .i64 home), (3, .pointer (some ⟨b1, 0, none⟩)), (6, .bool true), (7, .pointer (some ⟨b5, 0, none⟩)), (8, .pointer (some ⟨b6, 0, none⟩)), (26, .bool true)] ⟨by kernel_rfl, by kernel_rfl, by kernel_rfl, by kernel_rfl, by kernel_rfl, by kernel_rfl, by kernel_rfl, by kernel_rfl, trivial⟩ ?_
        refine at_then_normal ?_
        refine at_ret (by kernel_rfl) ?_
        refine at_then_ret ?_
        refine at_backR [.bool true] [] (rs := [.tmp 6]) (by kernel_rfl) (.cons (.tmp (by kernel_rfl)) .nil) (fun w hw => hw.less (.drop .here (.drop .here (.drop .here (.drop .here .refl))))) rfl
      · refine t_step 6 8 [] [4, 3, 2, 1] [0] (by kernel_rfl) (by kernel_rfl) (by kernel_rfl) (st_new (T := 38) (cells := #[.int .i64 (0), .int .i64 (0), .int .i64 (0), .int .i64 (0), .int .i64 (0), .int .i64 (0), .int .i64 (0), .bool false, .slice none 0 0]) (fun a => .pointer (some a)) (fun _ => by kernel_rfl)) ?_
        rintro _ _ ⟨b7, rfl, rfl⟩
        refine ⟨(stable_cons 0 13 (.agg #[.int .i64 dk1, .int .i64 dl1, .int .i64 di1, .int .i64 ds1, .int .i64 dt1, .int .i64 dh1, .slice a1 m1 c1, .int .i64 dn1, .int .i64 dd1]) (by kernel_rfl) (by kernel_rfl) (by kernel_rfl) (loadN (off := 0) (vs := [.int .i64 dk1, .int .i64 dl1, .int .i64 di1, .int .i64 ds1, .int .i64 dt1, .int .i64 dh1, .slice a1 m1 c1, .int .i64 dn1, .int .i64 dd1]) 9 (fun _ => by kernel_rfl) (holds_own (.there .here)) rfl (by exact ⟨rfl, rfl, rfl, rfl, rfl, rfl, rfl, rfl, rfl, trivial⟩)) stable_nil), ?_⟩
        refine d_call 5 18 [0, 2, 4, 1, 3] [] [] 20 #[.agg #[.int .i64 dk1, .int .i64 dl1, .int .i64 di1, .int .i64 ds1, .int .i64 dt1, .int .i64 dh1, .slice a1 m1 c1, .int .i64 dn1, .int .i64 dd1], .int .i64 (node % 6), .int .i64 (home % 6)] (by kernel_rfl) (by kernel_rfl) (by kernel_rfl) (fun _ => by kernel_rfl) (Ask_other ds1 (by omega) (by omega) (by omega) (by omega) (by omega) (by omega) dk1 dl1 di1 dt1 dh1 dn1 dd1 a1 m1 c1 (node % 6) (home % 6)) ?_
        rintro _ _ ⟨rfl, rfl⟩
        refine ⟨stable_nil, ?_⟩
        refine d_do 7 [6, 5, 0, 1, 2, 3, 4] [] [] (by kernel_rfl) (by kernel_rfl) (by kernel_rfl) (st_store (off := 0) (vs := [.int .i64 (0), .int .i64 (0), .int .i64 (0), .int .i64 (0), .int .i64 (0), .int .i64 (0), .int .i64 (0), .bool false, .slice none 0 0]) (c' := #[.int .i64 (0), .int .i64 (0), .int .i64 (0), .int .i64 (0), .int .i64 (0), .int .i64 (0), .int .i64 (0), .bool false, .slice none 0 0]) (fun _ => by kernel_rfl) .here (by kernel_rfl) (by kernel_rfl) (by kernel_rfl)) ?_
        rintro _ _ ⟨rfl, rfl⟩
        refine ⟨stable_nil, ?_⟩
        refine draw_end (by kernel_rfl) ?_
        refine At.env [(0, .agg #[.int .i64 rk, .int .i64 rl, .int .i64 ri, .int .i64 rs, .int .i64 rt, .int .i64 rh, .int .i64 rn, .int .i64 rd, .slice a m cap]), (1, .int .i64 node), (2, .int .i64 home), (3, .pointer (some ⟨b1, 0, none⟩)), (6, .bool false), (7, .pointer (some ⟨b5, 0, none⟩)), (8, .pointer (some ⟨b7, 0, none⟩))] ⟨by kernel_rfl, by kernel_rfl, by kernel_rfl, by kernel_rfl, by kernel_rfl, by kernel_rfl, by kernel_rfl, trivial⟩ ?_
        refine at_then_normal ?_
        refine at_seq (x := C6 [1, 1, 1, 0]) (y := C6 [1, 1, 1, 1]) (by kernel_rfl) ?_
        refine at_seq (x := C6 [1, 1, 1, 0, 0]) (y := C6 [1, 1, 1, 0, 1]) (by kernel_rfl) ?_
        refine at_region (id := 3) 8 (by kernel_rfl) (by kernel_rfl) ?_
        refine s_pure 19 (.pointer (some ⟨b5, 3, none⟩)) (by kernel_rfl) (by kernel_rfl) (fun _ => by kernel_rfl) ?_
        refine s_load 20 (.int .i64 ds1) (by kernel_rfl) (by kernel_rfl) (load1 (off := 3) (fun _ => by kernel_rfl) (holds_own (.there .here)) (by kernel_rfl)) ?_
        refine s_pure 21 (.bool false) (by kernel_rfl) (by kernel_rfl) (run_eq (v := .bool (decide (ds1 < (1 : Int)))) (fun _ => by kernel_rfl) (congrArg Value.bool (by rw [decide_eq_false h1]))) ?_
        refine s_pure 22 (.bool false) (by kernel_rfl) (by kernel_rfl) (fun _ => by kernel_rfl) ?_
        refine s_pure 23 (.pointer (some ⟨b5, 3, none⟩)) (by kernel_rfl) (by kernel_rfl) (fun _ => by kernel_rfl) ?_
        refine s_load 24 (.int .i64 ds1) (by kernel_rfl) (by kernel_rfl) (load1 (off := 3) (fun _ => by kernel_rfl) (holds_own (.there .here)) (by kernel_rfl)) ?_
        refine s_pure 25 (.bool true) (by kernel_rfl) (by kernel_rfl) (run_eq (v := .bool (decide ((6 : Int) < ds1))) (fun _ => by kernel_rfl) (congrArg Value.bool (by rw [decide_eq_true h2]))) ?_
        refine s_pure 26 (.bool true) (by kernel_rfl) (by kernel_rfl) (fun _ => by kernel_rfl) ?_
        refine ops_end ?_
        refine At.env [(0, .agg #[.int .i64 rk, .int .i64 rl, .int .i64 ri, .int .i64 rs, .int .i64 rt, .int .i64 rh, .int .i64 rn, .int .i64 rd, .slice a m cap]), (1, .int .i64 node), (2, .int .i64 home), (3, .pointer (some ⟨b1, 0, none⟩)), (6, .bool false), (7, .pointer (some ⟨b5, 0, none⟩)), (8, .pointer (some ⟨b7, 0, none⟩)), (26, .bool true)] ⟨by kernel_rfl, by kernel_rfl, by kernel_rfl, by kernel_rfl, by kernel_rfl, by kernel_rfl, by kernel_rfl, by kernel_rfl, trivial⟩ ?_
        refine at_then_normal ?_
        refine at_true (t := true) (x := C6 [1, 1, 1, 0, 1, 0]) (y := C6 [1, 1, 1, 0, 1, 1]) (o := .tmp 26) (by kernel_rfl) (by kernel_rfl) (by kernel_rfl) rfl ?_
        refine at_seq (x := C6 [1, 1, 1, 0, 1, 0, 0]) (y := C6 [1, 1, 1, 0, 1, 0, 1]) (by kernel_rfl) ?_
        refine at_region (id := 4) 17 (by kernel_rfl) (by kernel_rfl) ?_
        refine s_pure 27 (.pointer (some ⟨b7, 0, none⟩)) (by kernel_rfl) (by kernel_rfl) (fun _ => by kernel_rfl) ?_
        refine s_load 28 (.int .i64 (0)) (by kernel_rfl) (by kernel_rfl) (load1 (off := 0) (fun _ => by kernel_rfl) (holds_own .here) (by kernel_rfl)) ?_
        refine s_pure 29 (.bool true) (by kernel_rfl) (by kernel_rfl) (fun _ => by kernel_rfl) ?_
        refine s_pure 30 (.bool true) (by kernel_rfl) (by kernel_rfl) (fun _ => by kernel_rfl) ?_
        refine s_load 31 (.agg #[.int .i64 dk1, .int .i64 dl1, .int .i64 di1, .int .i64 ds1, .int .i64 dt1, .int .i64 dh1, .slice a1 m1 c1, .int .i64 dn1, .int .i64 dd1]) (by kernel_rfl) (by kernel_rfl) (loadN (off := 0) (vs := [.int .i64 dk1, .int .i64 dl1, .int .i64 di1, .int .i64 ds1, .int .i64 dt1, .int .i64 dh1, .slice a1 m1 c1, .int .i64 dn1, .int .i64 dd1]) 9 (fun _ => by kernel_rfl) (holds_own (.there .here)) rfl (by exact ⟨rfl, rfl, rfl, rfl, rfl, rfl, rfl, rfl, rfl, trivial⟩)) ?_
        refine s_pure 32 (.pointer (some ⟨b5, 2, none⟩)) (by kernel_rfl) (by kernel_rfl) (fun _ => by kernel_rfl) ?_
        refine s_load 33 (.int .i64 di1) (by kernel_rfl) (by kernel_rfl) (load1 (off := 2) (fun _ => by kernel_rfl) (holds_own (.there .here)) (by kernel_rfl)) ?_
        refine s_pure 34 (.pointer (some ⟨b5, 1, none⟩)) (by kernel_rfl) (by kernel_rfl) (fun _ => by kernel_rfl) ?_
        refine s_load 35 (.int .i64 dl1) (by kernel_rfl) (by kernel_rfl) (load1 (off := 1) (fun _ => by kernel_rfl) (holds_own (.there .here)) (by kernel_rfl)) ?_
        refine s_pure 36 (.agg #[.int .i64 (0), .int .i64 (0), .int .i64 (0), .int .i64 di1, .int .i64 dl1, .int .i64 (0), .int .i64 (0), .bool false, .slice none 0 0]) (by kernel_rfl) (by kernel_rfl) (fun _ => by kernel_rfl) ?_
        refine s_quiet 37 (.bool false) 27 #[.agg #[.int .i64 dk1, .int .i64 dl1, .int .i64 di1, .int .i64 ds1, .int .i64 dt1, .int .i64 dh1, .slice a1 m1 c1, .int .i64 dn1, .int .i64 dd1], .agg #[.int .i64 (0), .int .i64 (0), .int .i64 (0), .int .i64 di1, .int .i64 dl1, .int .i64 (0), .int .i64 (0), .bool false, .slice none 0 0]] (by kernel_rfl) (by kernel_rfl) (fun _ => by kernel_rfl) (Tr.as (Fits_tr ds1 dk1 dl1 di1 dt1 dh1 dn1 dd1 a1 m1 c1 (0) (0) (0) di1 dl1 (0) (0) false none 0 0) (congrArg Value.bool (show fitsB ds1 di1 dl1 (0) di1 dl1 = false from fits_not (by omega)))) ?_
        refine s_pure 38 (.bool true) (by kernel_rfl) (by kernel_rfl) (fun _ => by kernel_rfl) ?_
        refine s_pure 39 (.bool true) (by kernel_rfl) (by kernel_rfl) (fun _ => by kernel_rfl) ?_
        refine s_pure 40 (.bool true) (by kernel_rfl) (by kernel_rfl) (fun _ => by kernel_rfl) ?_
        refine s_quiet 41 (.bool true) 22 #[] (by kernel_rfl) (by kernel_rfl) (fun _ => by kernel_rfl) Wakes_tr ?_
        refine s_pure 42 (.bool true) (by kernel_rfl) (by kernel_rfl) (fun _ => by kernel_rfl) ?_
        refine s_pure 6 (.bool true) (by kernel_rfl) (by kernel_rfl) (fun _ => by kernel_rfl) ?_
        refine ops_end ?_
        refine At.env [(0, .agg #[.int .i64 rk, .int .i64 rl, .int .i64 ri, .int .i64 rs, .int .i64 rt, .int .i64 rh, .int .i64 rn, .int .i64 rd, .slice a m cap]), (1, .int .i64 node), (2, .int .i64 home), (3, .pointer (some ⟨b1, 0, none⟩)), (6, .bool true), (7, .pointer (some ⟨b5, 0, none⟩)), (8, .pointer (some ⟨b7, 0, none⟩)), (26, .bool true)] ⟨by kernel_rfl, by kernel_rfl, by kernel_rfl, by kernel_rfl, by kernel_rfl, by kernel_rfl, by kernel_rfl, by kernel_rfl, trivial⟩ ?_
        refine at_then_normal ?_
        refine at_ret (by kernel_rfl) ?_
        refine at_then_ret ?_
        refine at_backR [.bool true] [] (rs := [.tmp 6]) (by kernel_rfl) (.cons (.tmp (by kernel_rfl)) .nil) (fun w hw => hw.less (.drop .here (.drop .here (.drop .here (.drop .here .refl))))) rfl
    · refine s_step 7 (by kernel_rfl) (by kernel_rfl) (st_new (T := 36) (cells := #[.int .i64 (0), .int .i64 (0), .int .i64 (0), .int .i64 (0), .int .i64 (0), .int .i64 (0), .slice none 0 0, .int .i64 (0), .int .i64 (0)]) (fun a => .pointer (some a)) (fun _ => by kernel_rfl)) ?_
      rintro _ _ ⟨b8, rfl, rfl⟩
      refine s_do (by kernel_rfl) (by kernel_rfl) (st_store (off := 0) (vs := [.int .i64 dk1, .int .i64 dl1, .int .i64 di1, .int .i64 ds1, .int .i64 dt1, .int .i64 dh1, .slice a1 m1 c1, .int .i64 dn1, .int .i64 dd1]) (c' := #[.int .i64 dk1, .int .i64 dl1, .int .i64 di1, .int .i64 ds1, .int .i64 dt1, .int .i64 dh1, .slice a1 m1 c1, .int .i64 dn1, .int .i64 dd1]) (fun _ => by kernel_rfl) .here (by kernel_rfl) (by kernel_rfl) (by kernel_rfl)) ?_
      rintro _ _ ⟨rfl, rfl⟩
      refine ops_end ?_
      refine At.env [(0, .agg #[.int .i64 rk, .int .i64 rl, .int .i64 ri, .int .i64 rs, .int .i64 rt, .int .i64 rh, .int .i64 rn, .int .i64 rd, .slice a m cap]), (1, .int .i64 node), (2, .int .i64 home), (3, .pointer (some ⟨b1, 0, none⟩)), (6, .bool false), (7, .pointer (some ⟨b8, 0, none⟩))] ⟨by kernel_rfl, by kernel_rfl, by kernel_rfl, by kernel_rfl, by kernel_rfl, by kernel_rfl, trivial⟩ ?_
      refine at_then_normal ?_
      refine at_seq (x := C6 [1, 1, 0]) (y := C6 [1, 1, 1]) (by kernel_rfl) ?_
      refine at_region_draw (id := 2) (by kernel_rfl) (by kernel_rfl) ?_
      refine d_load 0 13 (.agg #[.int .i64 dk1, .int .i64 dl1, .int .i64 di1, .int .i64 ds1, .int .i64 dt1, .int .i64 dh1, .slice a1 m1 c1, .int .i64 dn1, .int .i64 dd1]) (by kernel_rfl) (by kernel_rfl) (by kernel_rfl) (loadN (off := 0) (vs := [.int .i64 dk1, .int .i64 dl1, .int .i64 di1, .int .i64 ds1, .int .i64 dt1, .int .i64 dh1, .slice a1 m1 c1, .int .i64 dn1, .int .i64 dd1]) 9 (fun _ => by kernel_rfl) (holds_own .here) rfl (by exact ⟨rfl, rfl, rfl, rfl, rfl, rfl, rfl, rfl, rfl, trivial⟩)) ?_
      refine d_pure 1 14 (.int .i64 node) (by kernel_rfl) (by kernel_rfl) (by kernel_rfl) (fun _ => by kernel_rfl) ?_
      refine d_quiet 2 15 (.int .i64 (node % 6)) 12 #[.int .i64 node, .int .i64 (6)] (by kernel_rfl) (by kernel_rfl) (by kernel_rfl) (fun _ => by kernel_rfl) (fun _ => (Within_tr (node) (6) (by omega) (by omega))) ?_
      refine d_pure 3 16 (.int .i64 home) (by kernel_rfl) (by kernel_rfl) (by kernel_rfl) (fun _ => by kernel_rfl) ?_
      refine d_quiet 4 17 (.int .i64 (home % 6)) 12 #[.int .i64 home, .int .i64 (6)] (by kernel_rfl) (by kernel_rfl) (by kernel_rfl) (fun _ => by kernel_rfl) (fun _ => (Within_tr (home) (6) (by omega) (by omega))) ?_
      refine draw_turns 5 [6] (by kernel_rfl) (turns_cons ?_ (turns_cons ?_ turns_nil))
      · refine t_call 5 18 [0, 2, 4, 1, 3] [] [] 20 #[.agg #[.int .i64 dk1, .int .i64 dl1, .int .i64 di1, .int .i64 ds1, .int .i64 dt1, .int .i64 dh1, .slice a1 m1 c1, .int .i64 dn1, .int .i64 dd1], .int .i64 (node % 6), .int .i64 (home % 6)] (by kernel_rfl) (by kernel_rfl) (by kernel_rfl) (fun _ => by kernel_rfl) (Ask_in ds1 h1 h2 dk1 dl1 di1 dt1 dh1 dn1 dd1 a1 m1 c1 (node % 6) (home % 6) (xs.take 3) (by first | exact hm | assumption) (RowsA.reads (k := 1) (.there .here)) (by simp only [List.length_take]; omega)) ?_
        rintro _ _ ⟨a2, m2, c2, rfl, hm2, rfl⟩
        refine ⟨stable_nil, ?_⟩
        refine d_step 6 8 [] [] [] (by kernel_rfl) (by kernel_rfl) (by kernel_rfl) (st_new (T := 38) (cells := #[.int .i64 (0), .int .i64 (0), .int .i64 (0), .int .i64 (0), .int .i64 (0), .int .i64 (0), .int .i64 (0), .bool false, .slice none 0 0]) (fun a => .pointer (some a)) (fun _ => by kernel_rfl)) ?_
        rintro _ _ ⟨b9, rfl, rfl⟩
        refine ⟨stable_nil, ?_⟩
        refine d_do 7 [6, 5, 0, 1, 2, 3, 4] [] [] (by kernel_rfl) (by kernel_rfl) (by kernel_rfl) (st_store (off := 0) (vs := [.int .i64 (kindI ds1), .int .i64 (node % 6), .int .i64 (toI ds1 (home % 6) dh1 dn1), .int .i64 di1, .int .i64 dl1, .int .i64 (ptrI ds1 (node % 6) dh1 dn1), .int .i64 (stateI ds1 dt1), .bool (flagI ds1 (xs.take 3).length), .slice a2 m2 c2]) (c' := #[.int .i64 (kindI ds1), .int .i64 (node % 6), .int .i64 (toI ds1 (home % 6) dh1 dn1), .int .i64 di1, .int .i64 dl1, .int .i64 (ptrI ds1 (node % 6) dh1 dn1), .int .i64 (stateI ds1 dt1), .bool (flagI ds1 (xs.take 3).length), .slice a2 m2 c2]) (fun _ => by kernel_rfl) .here (by kernel_rfl) (by kernel_rfl) (by kernel_rfl)) ?_
        rintro _ _ ⟨rfl, rfl⟩
        refine ⟨stable_nil, ?_⟩
        refine draw_end (by kernel_rfl) ?_
        refine At.env [(0, .agg #[.int .i64 rk, .int .i64 rl, .int .i64 ri, .int .i64 rs, .int .i64 rt, .int .i64 rh, .int .i64 rn, .int .i64 rd, .slice a m cap]), (1, .int .i64 node), (2, .int .i64 home), (3, .pointer (some ⟨b1, 0, none⟩)), (6, .bool false), (7, .pointer (some ⟨b8, 0, none⟩)), (8, .pointer (some ⟨b9, 0, none⟩))] ⟨by kernel_rfl, by kernel_rfl, by kernel_rfl, by kernel_rfl, by kernel_rfl, by kernel_rfl, by kernel_rfl, trivial⟩ ?_
        refine at_then_normal ?_
        refine at_seq (x := C6 [1, 1, 1, 0]) (y := C6 [1, 1, 1, 1]) (by kernel_rfl) ?_
        refine at_seq (x := C6 [1, 1, 1, 0, 0]) (y := C6 [1, 1, 1, 0, 1]) (by kernel_rfl) ?_
        refine at_region (id := 3) 8 (by kernel_rfl) (by kernel_rfl) ?_
        refine s_pure 19 (.pointer (some ⟨b8, 3, none⟩)) (by kernel_rfl) (by kernel_rfl) (fun _ => by kernel_rfl) ?_
        refine s_load 20 (.int .i64 ds1) (by kernel_rfl) (by kernel_rfl) (load1 (off := 3) (fun _ => by kernel_rfl) (holds_own (.there (.there .here))) (by kernel_rfl)) ?_
        refine s_pure 21 (.bool false) (by kernel_rfl) (by kernel_rfl) (run_eq (v := .bool (decide (ds1 < (1 : Int)))) (fun _ => by kernel_rfl) (congrArg Value.bool (by rw [decide_eq_false h1]))) ?_
        refine s_pure 22 (.bool false) (by kernel_rfl) (by kernel_rfl) (fun _ => by kernel_rfl) ?_
        refine s_pure 23 (.pointer (some ⟨b8, 3, none⟩)) (by kernel_rfl) (by kernel_rfl) (fun _ => by kernel_rfl) ?_
        refine s_load 24 (.int .i64 ds1) (by kernel_rfl) (by kernel_rfl) (load1 (off := 3) (fun _ => by kernel_rfl) (holds_own (.there (.there .here))) (by kernel_rfl)) ?_
        refine s_pure 25 (.bool false) (by kernel_rfl) (by kernel_rfl) (run_eq (v := .bool (decide ((6 : Int) < ds1))) (fun _ => by kernel_rfl) (congrArg Value.bool (by rw [decide_eq_false h2]))) ?_
        refine s_pure 26 (.bool false) (by kernel_rfl) (by kernel_rfl) (fun _ => by kernel_rfl) ?_
        refine ops_end ?_
        refine At.env [(0, .agg #[.int .i64 rk, .int .i64 rl, .int .i64 ri, .int .i64 rs, .int .i64 rt, .int .i64 rh, .int .i64 rn, .int .i64 rd, .slice a m cap]), (1, .int .i64 node), (2, .int .i64 home), (3, .pointer (some ⟨b1, 0, none⟩)), (6, .bool false), (7, .pointer (some ⟨b8, 0, none⟩)), (8, .pointer (some ⟨b9, 0, none⟩)), (26, .bool false)] ⟨by kernel_rfl, by kernel_rfl, by kernel_rfl, by kernel_rfl, by kernel_rfl, by kernel_rfl, by kernel_rfl, by kernel_rfl, trivial⟩ ?_
        refine at_then_normal ?_
        refine at_false (t := false) (x := C6 [1, 1, 1, 0, 1, 0]) (y := C6 [1, 1, 1, 0, 1, 1]) (o := .tmp 26) (by kernel_rfl) (by kernel_rfl) (by kernel_rfl) rfl ?_
        refine at_skip (by kernel_rfl) ?_
        refine at_then_normal ?_
        refine at_seq (x := C6 [1, 1, 1, 1, 0]) (y := C6 [1, 1, 1, 1, 1]) (by kernel_rfl) ?_
        refine at_region (id := 5) 4 (by kernel_rfl) (by kernel_rfl) ?_
        refine s_pure 43 (.pointer (some ⟨b9, 0, none⟩)) (by kernel_rfl) (by kernel_rfl) (fun _ => by kernel_rfl) ?_
        refine s_load 44 (.int .i64 (kindI ds1)) (by kernel_rfl) (by kernel_rfl) (load1 (off := 0) (fun _ => by kernel_rfl) (holds_own .here) (by kernel_rfl)) ?_
        refine s_quiet 45 (.int .i64 (answerI (kindI ds1))) 32 #[.int .i64 (kindI ds1)] (by kernel_rfl) (by kernel_rfl) (fun _ => by kernel_rfl) (RAnswer_tr (kindI ds1)) ?_
        refine s_pure 9 (.int .i64 (answerI (kindI ds1))) (by kernel_rfl) (by kernel_rfl) (fun _ => by kernel_rfl) ?_
        refine ops_end ?_
        refine At.env [(0, .agg #[.int .i64 rk, .int .i64 rl, .int .i64 ri, .int .i64 rs, .int .i64 rt, .int .i64 rh, .int .i64 rn, .int .i64 rd, .slice a m cap]), (1, .int .i64 node), (2, .int .i64 home), (3, .pointer (some ⟨b1, 0, none⟩)), (6, .bool false), (7, .pointer (some ⟨b8, 0, none⟩)), (8, .pointer (some ⟨b9, 0, none⟩)), (9, .int .i64 (answerI (kindI ds1))), (26, .bool false)] ⟨by kernel_rfl, by kernel_rfl, by kernel_rfl, by kernel_rfl, by kernel_rfl, by kernel_rfl, by kernel_rfl, by kernel_rfl, by kernel_rfl, trivial⟩ ?_
        refine at_then_normal ?_
        refine at_seq (x := C6 [1, 1, 1, 1, 1, 0]) (y := C6 [1, 1, 1, 1, 1, 1]) (by kernel_rfl) ?_
        refine at_seq (x := C6 [1, 1, 1, 1, 1, 0, 0]) (y := C6 [1, 1, 1, 1, 1, 0, 1]) (by kernel_rfl) ?_
        refine at_region (id := 6) 1 (by kernel_rfl) (by kernel_rfl) ?_
        refine s_pure 10 (.int .i64 (0)) (by kernel_rfl) (by kernel_rfl) (fun _ => by kernel_rfl) ?_
        refine ops_end ?_
        refine At.env [(0, .agg #[.int .i64 rk, .int .i64 rl, .int .i64 ri, .int .i64 rs, .int .i64 rt, .int .i64 rh, .int .i64 rn, .int .i64 rd, .slice a m cap]), (1, .int .i64 node), (2, .int .i64 home), (3, .pointer (some ⟨b1, 0, none⟩)), (6, .bool false), (7, .pointer (some ⟨b8, 0, none⟩)), (8, .pointer (some ⟨b9, 0, none⟩)), (9, .int .i64 (answerI (kindI ds1))), (10, .int .i64 (0)), (26, .bool false)] ⟨by kernel_rfl, by kernel_rfl, by kernel_rfl, by kernel_rfl, by kernel_rfl, by kernel_rfl, by kernel_rfl, by kernel_rfl, by kernel_rfl, by kernel_rfl, trivial⟩ ?_
        refine at_then_normal ?_
        refine at_block (i := 0) (x := C6 [1, 1, 1, 1, 1, 0, 1, 0]) (by kernel_rfl) ?_
        refine at_loopR (x := C6 [1, 1, 1, 1, 1, 0, 1, 0, 0]) (fun mm ff ΔΔ => ∃ i1 : Int, (0 ≤ i1) ∧ (i1 ≤ 11) ∧ mm = ((11 : Int) - i1).toNat ∧ ff = [(0, .agg #[.int .i64 rk, .int .i64 rl, .int .i64 ri, .int .i64 rs, .int .i64 rt, .int .i64 rh, .int .i64 rn, .int .i64 rd, .slice a m cap]), (1, .int .i64 node), (2, .int .i64 home), (3, .pointer (some ⟨b1, 0, none⟩)), (6, .bool false), (7, .pointer (some ⟨b8, 0, none⟩)), (8, .pointer (some ⟨b9, 0, none⟩)), (9, .int .i64 (answerI (kindI ds1))), (10, .int .i64 i1), (26, .bool false)] ∧ ΔΔ = [Asn.own b9 (.cells #[.int .i64 (kindI ds1), .int .i64 (node % 6), .int .i64 (toI ds1 (home % 6) dh1 dn1), .int .i64 di1, .int .i64 dl1, .int .i64 (ptrI ds1 (node % 6) dh1 dn1), .int .i64 (stateI ds1 dt1), .bool (flagI ds1 (xs.take 3).length), .slice a2 m2 c2] 38 (0, 0)), IntsA a2 c2 (dataI ds1 (xs.take 3)), Asn.own b8 (.cells #[.int .i64 dk1, .int .i64 dl1, .int .i64 di1, .int .i64 ds1, .int .i64 dt1, .int .i64 dh1, .slice a1 m1 c1, .int .i64 dn1, .int .i64 dd1] 36 (0, 0)), IntsA a1 c1 (xs.take 3), Asn.own b1 (.cells #[.int .i64 rk, .int .i64 rl, .int .i64 ri, .int .i64 rs, .int .i64 rt, .int .i64 rh, .int .i64 rn, .int .i64 rd, .slice a m cap] 44 (0, 0))]) (((11 : Int) - (0)).toNat) (by kernel_rfl) [(0, .agg #[.int .i64 rk, .int .i64 rl, .int .i64 ri, .int .i64 rs, .int .i64 rt, .int .i64 rh, .int .i64 rn, .int .i64 rd, .slice a m cap]), (1, .int .i64 node), (2, .int .i64 home), (3, .pointer (some ⟨b1, 0, none⟩)), (6, .bool false), (7, .pointer (some ⟨b8, 0, none⟩)), (8, .pointer (some ⟨b9, 0, none⟩)), (9, .int .i64 (answerI (kindI ds1))), (10, .int .i64 (0)), (26, .bool false)] ⟨by kernel_rfl, by kernel_rfl, by kernel_rfl, by kernel_rfl, by kernel_rfl, by kernel_rfl, by kernel_rfl, by kernel_rfl, by kernel_rfl, by kernel_rfl, trivial⟩ ⟨(0), (by omega), (by omega), rfl, rfl, rfl⟩ ?_
        rintro _ _ _ ⟨i1, hl1, hl2, rfl, rfl, rfl⟩
        refine at_seq (x := C6 [1, 1, 1, 1, 1, 0, 1, 0, 0, 0]) (y := C6 [1, 1, 1, 1, 1, 0, 1, 0, 0, 1]) (by kernel_rfl) ?_
        refine at_seq (x := C6 [1, 1, 1, 1, 1, 0, 1, 0, 0, 0, 0]) (y := C6 [1, 1, 1, 1, 1, 0, 1, 0, 0, 0, 1]) (by kernel_rfl) ?_
        refine at_region (id := 7) 2 (by kernel_rfl) (by kernel_rfl) ?_
        refine s_pure 46 (.int .i64 i1) (by kernel_rfl) (by kernel_rfl) (fun _ => by kernel_rfl) ?_
        rcases Decidable.em (i1 ≤ (10 : Int)) with h3 | h3
        · refine s_pure 47 (.bool true) (by kernel_rfl) (by kernel_rfl) (run_eq (v := .bool (decide (i1 ≤ (10 : Int)))) (fun _ => by kernel_rfl) (congrArg Value.bool (by rw [decide_eq_true h3]))) ?_
          refine ops_end ?_
          refine At.env [(0, .agg #[.int .i64 rk, .int .i64 rl, .int .i64 ri, .int .i64 rs, .int .i64 rt, .int .i64 rh, .int .i64 rn, .int .i64 rd, .slice a m cap]), (1, .int .i64 node), (2, .int .i64 home), (3, .pointer (some ⟨b1, 0, none⟩)), (6, .bool false), (7, .pointer (some ⟨b8, 0, none⟩)), (8, .pointer (some ⟨b9, 0, none⟩)), (9, .int .i64 (answerI (kindI ds1))), (10, .int .i64 i1), (26, .bool false), (47, .bool true)] ⟨by kernel_rfl, by kernel_rfl, by kernel_rfl, by kernel_rfl, by kernel_rfl, by kernel_rfl, by kernel_rfl, by kernel_rfl, by kernel_rfl, by kernel_rfl, by kernel_rfl, trivial⟩ ?_
          refine at_then_normal ?_
          refine at_true (t := true) (x := C6 [1, 1, 1, 1, 1, 0, 1, 0, 0, 0, 1, 0]) (y := C6 [1, 1, 1, 1, 1, 0, 1, 0, 0, 0, 1, 1]) (o := .tmp 47) (by kernel_rfl) (by kernel_rfl) (by kernel_rfl) rfl ?_
          refine at_skip (by kernel_rfl) ?_
          refine at_then_normal ?_
          refine at_seq (x := C6 [1, 1, 1, 1, 1, 0, 1, 0, 0, 1, 0]) (y := C6 [1, 1, 1, 1, 1, 0, 1, 0, 0, 1, 1]) (by kernel_rfl) ?_
          refine at_block (i := 1) (x := C6 [1, 1, 1, 1, 1, 0, 1, 0, 0, 1, 0, 0]) (by kernel_rfl) ?_
          refine at_seq (x := C6 [1, 1, 1, 1, 1, 0, 1, 0, 0, 1, 0, 0, 0]) (y := C6 [1, 1, 1, 1, 1, 0, 1, 0, 0, 1, 0, 0, 1]) (by kernel_rfl) ?_
          refine at_region (id := 9) 34 (by kernel_rfl) (by kernel_rfl) ?_
          refine s_load 50 (.agg #[.int .i64 dk1, .int .i64 dl1, .int .i64 di1, .int .i64 ds1, .int .i64 dt1, .int .i64 dh1, .slice a1 m1 c1, .int .i64 dn1, .int .i64 dd1]) (by kernel_rfl) (by kernel_rfl) (loadN (off := 0) (vs := [.int .i64 dk1, .int .i64 dl1, .int .i64 di1, .int .i64 ds1, .int .i64 dt1, .int .i64 dh1, .slice a1 m1 c1, .int .i64 dn1, .int .i64 dd1]) 9 (fun _ => by kernel_rfl) (holds_own (.there (.there .here))) rfl (by exact ⟨rfl, rfl, rfl, rfl, rfl, rfl, rfl, rfl, rfl, trivial⟩)) ?_
          refine s_pure 51 (.int .i64 i1) (by kernel_rfl) (by kernel_rfl) (fun _ => by kernel_rfl) ?_
          refine s_pure 52 (.pointer (some ⟨b8, 2, none⟩)) (by kernel_rfl) (by kernel_rfl) (fun _ => by kernel_rfl) ?_
          refine s_load 53 (.int .i64 di1) (by kernel_rfl) (by kernel_rfl) (load1 (off := 2) (fun _ => by kernel_rfl) (holds_own (.there (.there .here))) (by kernel_rfl)) ?_
          refine s_pure 54 (.pointer (some ⟨b8, 1, none⟩)) (by kernel_rfl) (by kernel_rfl) (fun _ => by kernel_rfl) ?_
          refine s_load 55 (.int .i64 dl1) (by kernel_rfl) (by kernel_rfl) (load1 (off := 1) (fun _ => by kernel_rfl) (holds_own (.there (.there .here))) (by kernel_rfl)) ?_
          refine s_pure 56 (.agg #[.int .i64 i1, .int .i64 (0), .int .i64 (0), .int .i64 di1, .int .i64 dl1, .int .i64 (0), .int .i64 (0), .bool false, .slice none 0 0]) (by kernel_rfl) (by kernel_rfl) (fun _ => by kernel_rfl) ?_
          refine s_quiet 57 (.bool (decide (i1 = (answerI (kindI ds1))))) 27 #[.agg #[.int .i64 dk1, .int .i64 dl1, .int .i64 di1, .int .i64 ds1, .int .i64 dt1, .int .i64 dh1, .slice a1 m1 c1, .int .i64 dn1, .int .i64 dd1], .agg #[.int .i64 i1, .int .i64 (0), .int .i64 (0), .int .i64 di1, .int .i64 dl1, .int .i64 (0), .int .i64 (0), .bool false, .slice none 0 0]] (by kernel_rfl) (by kernel_rfl) (fun _ => by kernel_rfl) (Tr.as (Fits_tr ds1 dk1 dl1 di1 dt1 dh1 dn1 dd1 a1 m1 c1 i1 (0) (0) di1 dl1 (0) (0) false none 0 0) (congrArg Value.bool (show fitsB ds1 di1 dl1 i1 di1 dl1 = decide (i1 = (answerI (kindI ds1))) from fits_is h1 h2 rfl rfl))) ?_
          refine s_pure 58 (.int .i64 i1) (by kernel_rfl) (by kernel_rfl) (fun _ => by kernel_rfl) ?_
          refine s_pure 59 (.int .i64 (answerI (kindI ds1))) (by kernel_rfl) (by kernel_rfl) (fun _ => by kernel_rfl) ?_
          refine s_pure 60 (.bool (decide (i1 = (answerI (kindI ds1))))) (by kernel_rfl) (by kernel_rfl) (fun _ => by kernel_rfl) ?_
          refine s_pure 61 (.bool false) (by kernel_rfl) (by kernel_rfl) (run_eq (v := .bool (!((decide (i1 = (answerI (kindI ds1)))) == (decide (i1 = (answerI (kindI ds1))))))) (fun _ => by kernel_rfl) (congrArg Value.bool (by rw [beq_self_eq_true]; rfl))) ?_
          refine s_pure 62 (.bool false) (by kernel_rfl) (by kernel_rfl) (fun _ => by kernel_rfl) ?_
          refine s_load 63 (.agg #[.int .i64 dk1, .int .i64 dl1, .int .i64 di1, .int .i64 ds1, .int .i64 dt1, .int .i64 dh1, .slice a1 m1 c1, .int .i64 dn1, .int .i64 dd1]) (by kernel_rfl) (by kernel_rfl) (loadN (off := 0) (vs := [.int .i64 dk1, .int .i64 dl1, .int .i64 di1, .int .i64 ds1, .int .i64 dt1, .int .i64 dh1, .slice a1 m1 c1, .int .i64 dn1, .int .i64 dd1]) 9 (fun _ => by kernel_rfl) (holds_own (.there (.there .here))) rfl (by exact ⟨rfl, rfl, rfl, rfl, rfl, rfl, rfl, rfl, rfl, trivial⟩)) ?_
          refine s_pure 64 (.int .i64 i1) (by kernel_rfl) (by kernel_rfl) (fun _ => by kernel_rfl) ?_
          refine s_pure 65 (.pointer (some ⟨b8, 2, none⟩)) (by kernel_rfl) (by kernel_rfl) (fun _ => by kernel_rfl) ?_
          refine s_load 66 (.int .i64 di1) (by kernel_rfl) (by kernel_rfl) (load1 (off := 2) (fun _ => by kernel_rfl) (holds_own (.there (.there .here))) (by kernel_rfl)) ?_
          refine s_pure 67 (.int .i64 (di1 + 1)) (by kernel_rfl) (by kernel_rfl) (run_eq (v := .int .i64 (IntKind.i64.wrap (di1 + 1))) (fun _ => by kernel_rfl) (by rw [wrap_in (by omega) (by omega)])) ?_
          refine s_pure 68 (.pointer (some ⟨b8, 1, none⟩)) (by kernel_rfl) (by kernel_rfl) (fun _ => by kernel_rfl) ?_
          refine s_load 69 (.int .i64 dl1) (by kernel_rfl) (by kernel_rfl) (load1 (off := 1) (fun _ => by kernel_rfl) (holds_own (.there (.there .here))) (by kernel_rfl)) ?_
          refine s_pure 70 (.agg #[.int .i64 i1, .int .i64 (0), .int .i64 (0), .int .i64 (di1 + 1), .int .i64 dl1, .int .i64 (0), .int .i64 (0), .bool false, .slice none 0 0]) (by kernel_rfl) (by kernel_rfl) (fun _ => by kernel_rfl) ?_
          refine s_quiet 71 (.bool false) 27 #[.agg #[.int .i64 dk1, .int .i64 dl1, .int .i64 di1, .int .i64 ds1, .int .i64 dt1, .int .i64 dh1, .slice a1 m1 c1, .int .i64 dn1, .int .i64 dd1], .agg #[.int .i64 i1, .int .i64 (0), .int .i64 (0), .int .i64 (di1 + 1), .int .i64 dl1, .int .i64 (0), .int .i64 (0), .bool false, .slice none 0 0]] (by kernel_rfl) (by kernel_rfl) (fun _ => by kernel_rfl) (Tr.as (Fits_tr ds1 dk1 dl1 di1 dt1 dh1 dn1 dd1 a1 m1 c1 i1 (0) (0) (di1 + 1) dl1 (0) (0) false none 0 0) (congrArg Value.bool (show fitsB ds1 di1 dl1 i1 (di1 + 1) dl1 = false from fits_not (by omega)))) ?_
          refine s_pure 72 (.bool false) (by kernel_rfl) (by kernel_rfl) (fun _ => by kernel_rfl) ?_
          refine s_pure 73 (.bool false) (by kernel_rfl) (by kernel_rfl) (fun _ => by kernel_rfl) ?_
          refine s_load 74 (.agg #[.int .i64 dk1, .int .i64 dl1, .int .i64 di1, .int .i64 ds1, .int .i64 dt1, .int .i64 dh1, .slice a1 m1 c1, .int .i64 dn1, .int .i64 dd1]) (by kernel_rfl) (by kernel_rfl) (loadN (off := 0) (vs := [.int .i64 dk1, .int .i64 dl1, .int .i64 di1, .int .i64 ds1, .int .i64 dt1, .int .i64 dh1, .slice a1 m1 c1, .int .i64 dn1, .int .i64 dd1]) 9 (fun _ => by kernel_rfl) (holds_own (.there (.there .here))) rfl (by exact ⟨rfl, rfl, rfl, rfl, rfl, rfl, rfl, rfl, rfl, trivial⟩)) ?_
          refine s_pure 75 (.int .i64 i1) (by kernel_rfl) (by kernel_rfl) (fun _ => by kernel_rfl) ?_
          refine s_pure 76 (.pointer (some ⟨b8, 2, none⟩)) (by kernel_rfl) (by kernel_rfl) (fun _ => by kernel_rfl) ?_
          refine s_load 77 (.int .i64 di1) (by kernel_rfl) (by kernel_rfl) (load1 (off := 2) (fun _ => by kernel_rfl) (holds_own (.there (.there .here))) (by kernel_rfl)) ?_
          refine s_pure 78 (.pointer (some ⟨b8, 1, none⟩)) (by kernel_rfl) (by kernel_rfl) (fun _ => by kernel_rfl) ?_
          refine s_load 79 (.int .i64 dl1) (by kernel_rfl) (by kernel_rfl) (load1 (off := 1) (fun _ => by kernel_rfl) (holds_own (.there (.there .here))) (by kernel_rfl)) ?_
          refine s_pure 80 (.int .i64 (dl1 + 1)) (by kernel_rfl) (by kernel_rfl) (run_eq (v := .int .i64 (IntKind.i64.wrap (dl1 + 1))) (fun _ => by kernel_rfl) (by rw [wrap_in (by omega) (by omega)])) ?_
          refine s_pure 81 (.agg #[.int .i64 i1, .int .i64 (0), .int .i64 (0), .int .i64 di1, .int .i64 (dl1 + 1), .int .i64 (0), .int .i64 (0), .bool false, .slice none 0 0]) (by kernel_rfl) (by kernel_rfl) (fun _ => by kernel_rfl) ?_
          refine s_quiet 82 (.bool false) 27 #[.agg #[.int .i64 dk1, .int .i64 dl1, .int .i64 di1, .int .i64 ds1, .int .i64 dt1, .int .i64 dh1, .slice a1 m1 c1, .int .i64 dn1, .int .i64 dd1], .agg #[.int .i64 i1, .int .i64 (0), .int .i64 (0), .int .i64 di1, .int .i64 (dl1 + 1), .int .i64 (0), .int .i64 (0), .bool false, .slice none 0 0]] (by kernel_rfl) (by kernel_rfl) (fun _ => by kernel_rfl) (Tr.as (Fits_tr ds1 dk1 dl1 di1 dt1 dh1 dn1 dd1 a1 m1 c1 i1 (0) (0) di1 (dl1 + 1) (0) (0) false none 0 0) (congrArg Value.bool (show fitsB ds1 di1 dl1 i1 di1 (dl1 + 1) = false from fits_not (by omega)))) ?_
          refine s_pure 83 (.bool false) (by kernel_rfl) (by kernel_rfl) (fun _ => by kernel_rfl) ?_
          refine ops_end ?_
          refine At.env [(0, .agg #[.int .i64 rk, .int .i64 rl, .int .i64 ri, .int .i64 rs, .int .i64 rt, .int .i64 rh, .int .i64 rn, .int .i64 rd, .slice a m cap]), (1, .int .i64 node), (2, .int .i64 home), (3, .pointer (some ⟨b1, 0, none⟩)), (6, .bool false), (7, .pointer (some ⟨b8, 0, none⟩)), (8, .pointer (some ⟨b9, 0, none⟩)), (9, .int .i64 (answerI (kindI ds1))), (10, .int .i64 i1), (26, .bool false), (47, .bool true), (83, .bool false)] ⟨by kernel_rfl, by kernel_rfl, by kernel_rfl, by kernel_rfl, by kernel_rfl, by kernel_rfl, by kernel_rfl, by kernel_rfl, by kernel_rfl, by kernel_rfl, by kernel_rfl, by kernel_rfl, trivial⟩ ?_
          refine at_then_normal ?_
          refine at_false (t := false) (x := C6 [1, 1, 1, 1, 1, 0, 1, 0, 0, 1, 0, 0, 1, 0]) (y := C6 [1, 1, 1, 1, 1, 0, 1, 0, 0, 1, 0, 0, 1, 1]) (o := .tmp 83) (by kernel_rfl) (by kernel_rfl) (by kernel_rfl) rfl ?_
          refine at_skip (by kernel_rfl) ?_
          refine at_in_normal ?_
          refine at_then_normal ?_
          refine at_region (id := 8) 3 (by kernel_rfl) (by kernel_rfl) ?_
          refine s_pure 48 (.int .i64 i1) (by kernel_rfl) (by kernel_rfl) (fun _ => by kernel_rfl) ?_
          refine s_pure 49 (.int .i64 (i1 + 1)) (by kernel_rfl) (by kernel_rfl) (run_eq (v := .int .i64 (IntKind.i64.wrap (i1 + 1))) (fun _ => by kernel_rfl) (by rw [wrap_in (by omega) (by omega)])) ?_
          refine s_pure 10 (.int .i64 (i1 + 1)) (by kernel_rfl) (by kernel_rfl) (fun _ => by kernel_rfl) ?_
          refine ops_end ?_
          refine At.env [(0, .agg #[.int .i64 rk, .int .i64 rl, .int .i64 ri, .int .i64 rs, .int .i64 rt, .int .i64 rh, .int .i64 rn, .int .i64 rd, .slice a m cap]), (1, .int .i64 node), (2, .int .i64 home), (3, .pointer (some ⟨b1, 0, none⟩)), (6, .bool false), (7, .pointer (some ⟨b8, 0, none⟩)), (8, .pointer (some ⟨b9, 0, none⟩)), (9, .int .i64 (answerI (kindI ds1))), (10, .int .i64 (i1 + 1)), (26, .bool false), (47, .bool true), (83, .bool false)] ⟨by kernel_rfl, by kernel_rfl, by kernel_rfl, by kernel_rfl, by kernel_rfl, by kernel_rfl, by kernel_rfl, by kernel_rfl, by kernel_rfl, by kernel_rfl, by kernel_rfl, by kernel_rfl, trivial⟩ ?_
          refine at_round_normal ?_
          exact at_roundR (((11 : Int) - (i1 + 1)).toNat) [(0, .agg #[.int .i64 rk, .int .i64 rl, .int .i64 ri, .int .i64 rs, .int .i64 rt, .int .i64 rh, .int .i64 rn, .int .i64 rd, .slice a m cap]), (1, .int .i64 node), (2, .int .i64 home), (3, .pointer (some ⟨b1, 0, none⟩)), (6, .bool false), (7, .pointer (some ⟨b8, 0, none⟩)), (8, .pointer (some ⟨b9, 0, none⟩)), (9, .int .i64 (answerI (kindI ds1))), (10, .int .i64 (i1 + 1)), (26, .bool false)] ([Asn.own b9 (.cells #[.int .i64 (kindI ds1), .int .i64 (node % 6), .int .i64 (toI ds1 (home % 6) dh1 dn1), .int .i64 di1, .int .i64 dl1, .int .i64 (ptrI ds1 (node % 6) dh1 dn1), .int .i64 (stateI ds1 dt1), .bool (flagI ds1 (xs.take 3).length), .slice a2 m2 c2] 38 (0, 0)), IntsA a2 c2 (dataI ds1 (xs.take 3)), Asn.own b8 (.cells #[.int .i64 dk1, .int .i64 dl1, .int .i64 di1, .int .i64 ds1, .int .i64 dt1, .int .i64 dh1, .slice a1 m1 c1, .int .i64 dn1, .int .i64 dd1] 36 (0, 0)), IntsA a1 c1 (xs.take 3), Asn.own b1 (.cells #[.int .i64 rk, .int .i64 rl, .int .i64 ri, .int .i64 rs, .int .i64 rt, .int .i64 rh, .int .i64 rn, .int .i64 rd, .slice a m cap] 44 (0, 0))]) (by omega) ⟨by kernel_rfl, by kernel_rfl, by kernel_rfl, by kernel_rfl, by kernel_rfl, by kernel_rfl, by kernel_rfl, by kernel_rfl, by kernel_rfl, by kernel_rfl, trivial⟩ (fun w hw => hw.less (.take .here (.take .here (.take .here (.take .here (.take .here .refl)))))) ⟨i1 + 1, (by omega), (by omega), rfl, rfl, rfl⟩
        · refine s_pure 47 (.bool false) (by kernel_rfl) (by kernel_rfl) (run_eq (v := .bool (decide (i1 ≤ (10 : Int)))) (fun _ => by kernel_rfl) (congrArg Value.bool (by rw [decide_eq_false h3]))) ?_
          refine ops_end ?_
          refine At.env [(0, .agg #[.int .i64 rk, .int .i64 rl, .int .i64 ri, .int .i64 rs, .int .i64 rt, .int .i64 rh, .int .i64 rn, .int .i64 rd, .slice a m cap]), (1, .int .i64 node), (2, .int .i64 home), (3, .pointer (some ⟨b1, 0, none⟩)), (6, .bool false), (7, .pointer (some ⟨b8, 0, none⟩)), (8, .pointer (some ⟨b9, 0, none⟩)), (9, .int .i64 (answerI (kindI ds1))), (10, .int .i64 i1), (26, .bool false), (47, .bool false)] ⟨by kernel_rfl, by kernel_rfl, by kernel_rfl, by kernel_rfl, by kernel_rfl, by kernel_rfl, by kernel_rfl, by kernel_rfl, by kernel_rfl, by kernel_rfl, by kernel_rfl, trivial⟩ ?_
          refine at_then_normal ?_
          refine at_false (t := false) (x := C6 [1, 1, 1, 1, 1, 0, 1, 0, 0, 0, 1, 0]) (y := C6 [1, 1, 1, 1, 1, 0, 1, 0, 0, 0, 1, 1]) (o := .tmp 47) (by kernel_rfl) (by kernel_rfl) (by kernel_rfl) rfl ?_
          refine at_exit (i := 0) (by kernel_rfl) ?_
          refine at_then_exit ?_
          refine at_then_exit ?_
          refine at_in_here ?_
          refine at_then_normal ?_
          refine at_seq (x := C6 [1, 1, 1, 1, 1, 1, 0]) (y := C6 [1, 1, 1, 1, 1, 1, 1]) (by kernel_rfl) ?_
          refine at_region_draw (id := 11) (by kernel_rfl) (by kernel_rfl) ?_
          refine d_pure 0 84 (.int .i64 (answerI (kindI ds1))) (by kernel_rfl) (by kernel_rfl) (by kernel_rfl) (fun _ => by kernel_rfl) ?_
          refine d_pure 1 85 (.bool true) (by kernel_rfl) (by kernel_rfl) (by kernel_rfl) (run_eq (v := .bool (!(decide ((answerI (kindI ds1)) = (0 : Int))))) (fun _ => by kernel_rfl) (congrArg Value.bool (by rw [decide_eq_false (answer_ne h1 h2)]; rfl))) ?_
          refine d_pure 2 86 (.bool true) (by kernel_rfl) (by kernel_rfl) (by kernel_rfl) (fun _ => by kernel_rfl) ?_
          refine d_pure 3 87 (.pointer (some ⟨b9, 3, none⟩)) (by kernel_rfl) (by kernel_rfl) (by kernel_rfl) (fun _ => by kernel_rfl) ?_
          refine d_load 4 88 (.int .i64 di1) (by kernel_rfl) (by kernel_rfl) (by kernel_rfl) (load1 (off := 3) (fun _ => by kernel_rfl) (holds_own .here) (by kernel_rfl)) ?_
          refine d_pure 5 89 (.pointer (some ⟨b8, 2, none⟩)) (by kernel_rfl) (by kernel_rfl) (by kernel_rfl) (fun _ => by kernel_rfl) ?_
          refine d_load 6 90 (.int .i64 di1) (by kernel_rfl) (by kernel_rfl) (by kernel_rfl) (load1 (off := 2) (fun _ => by kernel_rfl) (holds_own (.there (.there .here))) (by kernel_rfl)) ?_
          refine d_pure 7 91 (.bool true) (by kernel_rfl) (by kernel_rfl) (by kernel_rfl) (run_eq (v := .bool (decide (di1 = di1))) (fun _ => by kernel_rfl) (congrArg Value.bool (by rw [decide_eq_true rfl]))) ?_
          refine d_pure 8 92 (.bool true) (by kernel_rfl) (by kernel_rfl) (by kernel_rfl) (fun _ => by kernel_rfl) ?_
          refine d_pure 9 93 (.bool true) (by kernel_rfl) (by kernel_rfl) (by kernel_rfl) (fun _ => by kernel_rfl) ?_
          refine d_pure 10 94 (.pointer (some ⟨b9, 4, none⟩)) (by kernel_rfl) (by kernel_rfl) (by kernel_rfl) (fun _ => by kernel_rfl) ?_
          refine d_load 11 95 (.int .i64 dl1) (by kernel_rfl) (by kernel_rfl) (by kernel_rfl) (load1 (off := 4) (fun _ => by kernel_rfl) (holds_own .here) (by kernel_rfl)) ?_
          refine d_pure 12 96 (.pointer (some ⟨b8, 1, none⟩)) (by kernel_rfl) (by kernel_rfl) (by kernel_rfl) (fun _ => by kernel_rfl) ?_
          refine d_load 13 97 (.int .i64 dl1) (by kernel_rfl) (by kernel_rfl) (by kernel_rfl) (load1 (off := 1) (fun _ => by kernel_rfl) (holds_own (.there (.there .here))) (by kernel_rfl)) ?_
          refine d_pure 14 98 (.bool true) (by kernel_rfl) (by kernel_rfl) (by kernel_rfl) (run_eq (v := .bool (decide (dl1 = dl1))) (fun _ => by kernel_rfl) (congrArg Value.bool (by rw [decide_eq_true rfl]))) ?_
          refine d_pure 15 99 (.bool true) (by kernel_rfl) (by kernel_rfl) (by kernel_rfl) (fun _ => by kernel_rfl) ?_
          refine d_pure 16 100 (.bool true) (by kernel_rfl) (by kernel_rfl) (by kernel_rfl) (fun _ => by kernel_rfl) ?_
          refine d_pure 17 101 (.pointer (some ⟨b9, 1, none⟩)) (by kernel_rfl) (by kernel_rfl) (by kernel_rfl) (fun _ => by kernel_rfl) ?_
          refine d_load 18 102 (.int .i64 (node % 6)) (by kernel_rfl) (by kernel_rfl) (by kernel_rfl) (load1 (off := 1) (fun _ => by kernel_rfl) (holds_own .here) (by kernel_rfl)) ?_
          refine d_pure 19 103 (.int .i64 node) (by kernel_rfl) (by kernel_rfl) (by kernel_rfl) (fun _ => by kernel_rfl) ?_
          refine d_quiet 20 104 (.int .i64 (node % 6)) 12 #[.int .i64 node, .int .i64 (6)] (by kernel_rfl) (by kernel_rfl) (by kernel_rfl) (fun _ => by kernel_rfl) (fun _ => (Within_tr (node) (6) (by omega) (by omega))) ?_
          refine d_pure 21 105 (.bool true) (by kernel_rfl) (by kernel_rfl) (by kernel_rfl) (run_eq (v := .bool (decide ((node % 6) = (node % 6)))) (fun _ => by kernel_rfl) (congrArg Value.bool (by rw [decide_eq_true rfl]))) ?_
          refine d_pure 22 106 (.bool true) (by kernel_rfl) (by kernel_rfl) (by kernel_rfl) (fun _ => by kernel_rfl) ?_
          refine d_pure 23 107 (.bool true) (by kernel_rfl) (by kernel_rfl) (by kernel_rfl) (fun _ => by kernel_rfl) ?_
          refine d_quiet 24 108 (.bool true) 22 #[] (by kernel_rfl) (by kernel_rfl) (by kernel_rfl) (fun _ => by kernel_rfl) (fun _ => Wakes_tr) ?_
          refine d_pure 25 109 (.bool true) (by kernel_rfl) (by kernel_rfl) (by kernel_rfl) (fun _ => by kernel_rfl) ?_
          refine d_pure 26 6 (.bool true) (by kernel_rfl) (by kernel_rfl) (by kernel_rfl) (fun _ => by kernel_rfl) ?_
          refine draw_end (by kernel_rfl) ?_
          refine At.env [(0, .agg #[.int .i64 rk, .int .i64 rl, .int .i64 ri, .int .i64 rs, .int .i64 rt, .int .i64 rh, .int .i64 rn, .int .i64 rd, .slice a m cap]), (1, .int .i64 node), (2, .int .i64 home), (3, .pointer (some ⟨b1, 0, none⟩)), (6, .bool true), (7, .pointer (some ⟨b8, 0, none⟩)), (8, .pointer (some ⟨b9, 0, none⟩)), (9, .int .i64 (answerI (kindI ds1))), (10, .int .i64 i1), (26, .bool false), (47, .bool false)] ⟨by kernel_rfl, by kernel_rfl, by kernel_rfl, by kernel_rfl, by kernel_rfl, by kernel_rfl, by kernel_rfl, by kernel_rfl, by kernel_rfl, by kernel_rfl, by kernel_rfl, trivial⟩ ?_
          refine at_then_normal ?_
          refine at_ret (by kernel_rfl) ?_
          refine at_backR [.bool true] [] (rs := [.tmp 6]) (by kernel_rfl) (.cons (.tmp (by kernel_rfl)) .nil) (fun w hw => hw.less (.drop .here (.drop .here (.drop .here (.drop .here (.drop .here .refl)))))) rfl
      · refine t_step 6 8 [] [4, 3, 2, 1] [0] (by kernel_rfl) (by kernel_rfl) (by kernel_rfl) (st_new (T := 38) (cells := #[.int .i64 (0), .int .i64 (0), .int .i64 (0), .int .i64 (0), .int .i64 (0), .int .i64 (0), .int .i64 (0), .bool false, .slice none 0 0]) (fun a => .pointer (some a)) (fun _ => by kernel_rfl)) ?_
        rintro _ _ ⟨b10, rfl, rfl⟩
        refine ⟨(stable_cons 0 13 (.agg #[.int .i64 dk1, .int .i64 dl1, .int .i64 di1, .int .i64 ds1, .int .i64 dt1, .int .i64 dh1, .slice a1 m1 c1, .int .i64 dn1, .int .i64 dd1]) (by kernel_rfl) (by kernel_rfl) (by kernel_rfl) (loadN (off := 0) (vs := [.int .i64 dk1, .int .i64 dl1, .int .i64 di1, .int .i64 ds1, .int .i64 dt1, .int .i64 dh1, .slice a1 m1 c1, .int .i64 dn1, .int .i64 dd1]) 9 (fun _ => by kernel_rfl) (holds_own (.there .here)) rfl (by exact ⟨rfl, rfl, rfl, rfl, rfl, rfl, rfl, rfl, rfl, trivial⟩)) stable_nil), ?_⟩
        refine d_call 5 18 [0, 2, 4, 1, 3] [] [] 20 #[.agg #[.int .i64 dk1, .int .i64 dl1, .int .i64 di1, .int .i64 ds1, .int .i64 dt1, .int .i64 dh1, .slice a1 m1 c1, .int .i64 dn1, .int .i64 dd1], .int .i64 (node % 6), .int .i64 (home % 6)] (by kernel_rfl) (by kernel_rfl) (by kernel_rfl) (fun _ => by kernel_rfl) (Ask_in ds1 h1 h2 dk1 dl1 di1 dt1 dh1 dn1 dd1 a1 m1 c1 (node % 6) (home % 6) (xs.take 3) (by first | exact hm | assumption) (RowsA.reads (k := 1) (.there (.there .here))) (by simp only [List.length_take]; omega)) ?_
        rintro _ _ ⟨a3, m3, c3, rfl, hm3, rfl⟩
        refine ⟨stable_nil, ?_⟩
        refine d_do 7 [6, 5, 0, 1, 2, 3, 4] [] [] (by kernel_rfl) (by kernel_rfl) (by kernel_rfl) (st_store (off := 0) (vs := [.int .i64 (kindI ds1), .int .i64 (node % 6), .int .i64 (toI ds1 (home % 6) dh1 dn1), .int .i64 di1, .int .i64 dl1, .int .i64 (ptrI ds1 (node % 6) dh1 dn1), .int .i64 (stateI ds1 dt1), .bool (flagI ds1 (xs.take 3).length), .slice a3 m3 c3]) (c' := #[.int .i64 (kindI ds1), .int .i64 (node % 6), .int .i64 (toI ds1 (home % 6) dh1 dn1), .int .i64 di1, .int .i64 dl1, .int .i64 (ptrI ds1 (node % 6) dh1 dn1), .int .i64 (stateI ds1 dt1), .bool (flagI ds1 (xs.take 3).length), .slice a3 m3 c3]) (fun _ => by kernel_rfl) (.there .here) (by kernel_rfl) (by kernel_rfl) (by kernel_rfl)) ?_
        rintro _ _ ⟨rfl, rfl⟩
        refine ⟨stable_nil, ?_⟩
        refine draw_end (by kernel_rfl) ?_
        refine At.env [(0, .agg #[.int .i64 rk, .int .i64 rl, .int .i64 ri, .int .i64 rs, .int .i64 rt, .int .i64 rh, .int .i64 rn, .int .i64 rd, .slice a m cap]), (1, .int .i64 node), (2, .int .i64 home), (3, .pointer (some ⟨b1, 0, none⟩)), (6, .bool false), (7, .pointer (some ⟨b8, 0, none⟩)), (8, .pointer (some ⟨b10, 0, none⟩))] ⟨by kernel_rfl, by kernel_rfl, by kernel_rfl, by kernel_rfl, by kernel_rfl, by kernel_rfl, by kernel_rfl, trivial⟩ ?_
        refine at_then_normal ?_
        refine at_seq (x := C6 [1, 1, 1, 0]) (y := C6 [1, 1, 1, 1]) (by kernel_rfl) ?_
        refine at_seq (x := C6 [1, 1, 1, 0, 0]) (y := C6 [1, 1, 1, 0, 1]) (by kernel_rfl) ?_
        refine at_region (id := 3) 8 (by kernel_rfl) (by kernel_rfl) ?_
        refine s_pure 19 (.pointer (some ⟨b8, 3, none⟩)) (by kernel_rfl) (by kernel_rfl) (fun _ => by kernel_rfl) ?_
        refine s_load 20 (.int .i64 ds1) (by kernel_rfl) (by kernel_rfl) (load1 (off := 3) (fun _ => by kernel_rfl) (holds_own (.there (.there .here))) (by kernel_rfl)) ?_
        refine s_pure 21 (.bool false) (by kernel_rfl) (by kernel_rfl) (run_eq (v := .bool (decide (ds1 < (1 : Int)))) (fun _ => by kernel_rfl) (congrArg Value.bool (by rw [decide_eq_false h1]))) ?_
        refine s_pure 22 (.bool false) (by kernel_rfl) (by kernel_rfl) (fun _ => by kernel_rfl) ?_
        refine s_pure 23 (.pointer (some ⟨b8, 3, none⟩)) (by kernel_rfl) (by kernel_rfl) (fun _ => by kernel_rfl) ?_
        refine s_load 24 (.int .i64 ds1) (by kernel_rfl) (by kernel_rfl) (load1 (off := 3) (fun _ => by kernel_rfl) (holds_own (.there (.there .here))) (by kernel_rfl)) ?_
        refine s_pure 25 (.bool false) (by kernel_rfl) (by kernel_rfl) (run_eq (v := .bool (decide ((6 : Int) < ds1))) (fun _ => by kernel_rfl) (congrArg Value.bool (by rw [decide_eq_false h2]))) ?_
        refine s_pure 26 (.bool false) (by kernel_rfl) (by kernel_rfl) (fun _ => by kernel_rfl) ?_
        refine ops_end ?_
        refine At.env [(0, .agg #[.int .i64 rk, .int .i64 rl, .int .i64 ri, .int .i64 rs, .int .i64 rt, .int .i64 rh, .int .i64 rn, .int .i64 rd, .slice a m cap]), (1, .int .i64 node), (2, .int .i64 home), (3, .pointer (some ⟨b1, 0, none⟩)), (6, .bool false), (7, .pointer (some ⟨b8, 0, none⟩)), (8, .pointer (some ⟨b10, 0, none⟩)), (26, .bool false)] ⟨by kernel_rfl, by kernel_rfl, by kernel_rfl, by kernel_rfl, by kernel_rfl, by kernel_rfl, by kernel_rfl, by kernel_rfl, trivial⟩ ?_
        refine at_then_normal ?_
        refine at_false (t := false) (x := C6 [1, 1, 1, 0, 1, 0]) (y := C6 [1, 1, 1, 0, 1, 1]) (o := .tmp 26) (by kernel_rfl) (by kernel_rfl) (by kernel_rfl) rfl ?_
        refine at_skip (by kernel_rfl) ?_
        refine at_then_normal ?_
        refine at_seq (x := C6 [1, 1, 1, 1, 0]) (y := C6 [1, 1, 1, 1, 1]) (by kernel_rfl) ?_
        refine at_region (id := 5) 4 (by kernel_rfl) (by kernel_rfl) ?_
        refine s_pure 43 (.pointer (some ⟨b10, 0, none⟩)) (by kernel_rfl) (by kernel_rfl) (fun _ => by kernel_rfl) ?_
        refine s_load 44 (.int .i64 (kindI ds1)) (by kernel_rfl) (by kernel_rfl) (load1 (off := 0) (fun _ => by kernel_rfl) (holds_own .here) (by kernel_rfl)) ?_
        refine s_quiet 45 (.int .i64 (answerI (kindI ds1))) 32 #[.int .i64 (kindI ds1)] (by kernel_rfl) (by kernel_rfl) (fun _ => by kernel_rfl) (RAnswer_tr (kindI ds1)) ?_
        refine s_pure 9 (.int .i64 (answerI (kindI ds1))) (by kernel_rfl) (by kernel_rfl) (fun _ => by kernel_rfl) ?_
        refine ops_end ?_
        refine At.env [(0, .agg #[.int .i64 rk, .int .i64 rl, .int .i64 ri, .int .i64 rs, .int .i64 rt, .int .i64 rh, .int .i64 rn, .int .i64 rd, .slice a m cap]), (1, .int .i64 node), (2, .int .i64 home), (3, .pointer (some ⟨b1, 0, none⟩)), (6, .bool false), (7, .pointer (some ⟨b8, 0, none⟩)), (8, .pointer (some ⟨b10, 0, none⟩)), (9, .int .i64 (answerI (kindI ds1))), (26, .bool false)] ⟨by kernel_rfl, by kernel_rfl, by kernel_rfl, by kernel_rfl, by kernel_rfl, by kernel_rfl, by kernel_rfl, by kernel_rfl, by kernel_rfl, trivial⟩ ?_
        refine at_then_normal ?_
        refine at_seq (x := C6 [1, 1, 1, 1, 1, 0]) (y := C6 [1, 1, 1, 1, 1, 1]) (by kernel_rfl) ?_
        refine at_seq (x := C6 [1, 1, 1, 1, 1, 0, 0]) (y := C6 [1, 1, 1, 1, 1, 0, 1]) (by kernel_rfl) ?_
        refine at_region (id := 6) 1 (by kernel_rfl) (by kernel_rfl) ?_
        refine s_pure 10 (.int .i64 (0)) (by kernel_rfl) (by kernel_rfl) (fun _ => by kernel_rfl) ?_
        refine ops_end ?_
        refine At.env [(0, .agg #[.int .i64 rk, .int .i64 rl, .int .i64 ri, .int .i64 rs, .int .i64 rt, .int .i64 rh, .int .i64 rn, .int .i64 rd, .slice a m cap]), (1, .int .i64 node), (2, .int .i64 home), (3, .pointer (some ⟨b1, 0, none⟩)), (6, .bool false), (7, .pointer (some ⟨b8, 0, none⟩)), (8, .pointer (some ⟨b10, 0, none⟩)), (9, .int .i64 (answerI (kindI ds1))), (10, .int .i64 (0)), (26, .bool false)] ⟨by kernel_rfl, by kernel_rfl, by kernel_rfl, by kernel_rfl, by kernel_rfl, by kernel_rfl, by kernel_rfl, by kernel_rfl, by kernel_rfl, by kernel_rfl, trivial⟩ ?_
        refine at_then_normal ?_
        refine at_block (i := 0) (x := C6 [1, 1, 1, 1, 1, 0, 1, 0]) (by kernel_rfl) ?_
        refine at_loopR (x := C6 [1, 1, 1, 1, 1, 0, 1, 0, 0]) (fun mm ff ΔΔ => ∃ i2 : Int, (0 ≤ i2) ∧ (i2 ≤ 11) ∧ mm = ((11 : Int) - i2).toNat ∧ ff = [(0, .agg #[.int .i64 rk, .int .i64 rl, .int .i64 ri, .int .i64 rs, .int .i64 rt, .int .i64 rh, .int .i64 rn, .int .i64 rd, .slice a m cap]), (1, .int .i64 node), (2, .int .i64 home), (3, .pointer (some ⟨b1, 0, none⟩)), (6, .bool false), (7, .pointer (some ⟨b8, 0, none⟩)), (8, .pointer (some ⟨b10, 0, none⟩)), (9, .int .i64 (answerI (kindI ds1))), (10, .int .i64 i2), (26, .bool false)] ∧ ΔΔ = [Asn.own b10 (.cells #[.int .i64 (kindI ds1), .int .i64 (node % 6), .int .i64 (toI ds1 (home % 6) dh1 dn1), .int .i64 di1, .int .i64 dl1, .int .i64 (ptrI ds1 (node % 6) dh1 dn1), .int .i64 (stateI ds1 dt1), .bool (flagI ds1 (xs.take 3).length), .slice a3 m3 c3] 38 (0, 0)), IntsA a3 c3 (dataI ds1 (xs.take 3)), Asn.own b8 (.cells #[.int .i64 dk1, .int .i64 dl1, .int .i64 di1, .int .i64 ds1, .int .i64 dt1, .int .i64 dh1, .slice a1 m1 c1, .int .i64 dn1, .int .i64 dd1] 36 (0, 0)), IntsA a1 c1 (xs.take 3), Asn.own b1 (.cells #[.int .i64 rk, .int .i64 rl, .int .i64 ri, .int .i64 rs, .int .i64 rt, .int .i64 rh, .int .i64 rn, .int .i64 rd, .slice a m cap] 44 (0, 0))]) (((11 : Int) - (0)).toNat) (by kernel_rfl) [(0, .agg #[.int .i64 rk, .int .i64 rl, .int .i64 ri, .int .i64 rs, .int .i64 rt, .int .i64 rh, .int .i64 rn, .int .i64 rd, .slice a m cap]), (1, .int .i64 node), (2, .int .i64 home), (3, .pointer (some ⟨b1, 0, none⟩)), (6, .bool false), (7, .pointer (some ⟨b8, 0, none⟩)), (8, .pointer (some ⟨b10, 0, none⟩)), (9, .int .i64 (answerI (kindI ds1))), (10, .int .i64 (0)), (26, .bool false)] ⟨by kernel_rfl, by kernel_rfl, by kernel_rfl, by kernel_rfl, by kernel_rfl, by kernel_rfl, by kernel_rfl, by kernel_rfl, by kernel_rfl, by kernel_rfl, trivial⟩ ⟨(0), (by omega), (by omega), rfl, rfl, rfl⟩ ?_
        rintro _ _ _ ⟨i2, hl3, hl4, rfl, rfl, rfl⟩
        refine at_seq (x := C6 [1, 1, 1, 1, 1, 0, 1, 0, 0, 0]) (y := C6 [1, 1, 1, 1, 1, 0, 1, 0, 0, 1]) (by kernel_rfl) ?_
        refine at_seq (x := C6 [1, 1, 1, 1, 1, 0, 1, 0, 0, 0, 0]) (y := C6 [1, 1, 1, 1, 1, 0, 1, 0, 0, 0, 1]) (by kernel_rfl) ?_
        refine at_region (id := 7) 2 (by kernel_rfl) (by kernel_rfl) ?_
        refine s_pure 46 (.int .i64 i2) (by kernel_rfl) (by kernel_rfl) (fun _ => by kernel_rfl) ?_
        rcases Decidable.em (i2 ≤ (10 : Int)) with h4 | h4
        · refine s_pure 47 (.bool true) (by kernel_rfl) (by kernel_rfl) (run_eq (v := .bool (decide (i2 ≤ (10 : Int)))) (fun _ => by kernel_rfl) (congrArg Value.bool (by rw [decide_eq_true h4]))) ?_
          refine ops_end ?_
          refine At.env [(0, .agg #[.int .i64 rk, .int .i64 rl, .int .i64 ri, .int .i64 rs, .int .i64 rt, .int .i64 rh, .int .i64 rn, .int .i64 rd, .slice a m cap]), (1, .int .i64 node), (2, .int .i64 home), (3, .pointer (some ⟨b1, 0, none⟩)), (6, .bool false), (7, .pointer (some ⟨b8, 0, none⟩)), (8, .pointer (some ⟨b10, 0, none⟩)), (9, .int .i64 (answerI (kindI ds1))), (10, .int .i64 i2), (26, .bool false), (47, .bool true)] ⟨by kernel_rfl, by kernel_rfl, by kernel_rfl, by kernel_rfl, by kernel_rfl, by kernel_rfl, by kernel_rfl, by kernel_rfl, by kernel_rfl, by kernel_rfl, by kernel_rfl, trivial⟩ ?_
          refine at_then_normal ?_
          refine at_true (t := true) (x := C6 [1, 1, 1, 1, 1, 0, 1, 0, 0, 0, 1, 0]) (y := C6 [1, 1, 1, 1, 1, 0, 1, 0, 0, 0, 1, 1]) (o := .tmp 47) (by kernel_rfl) (by kernel_rfl) (by kernel_rfl) rfl ?_
          refine at_skip (by kernel_rfl) ?_
          refine at_then_normal ?_
          refine at_seq (x := C6 [1, 1, 1, 1, 1, 0, 1, 0, 0, 1, 0]) (y := C6 [1, 1, 1, 1, 1, 0, 1, 0, 0, 1, 1]) (by kernel_rfl) ?_
          refine at_block (i := 1) (x := C6 [1, 1, 1, 1, 1, 0, 1, 0, 0, 1, 0, 0]) (by kernel_rfl) ?_
          refine at_seq (x := C6 [1, 1, 1, 1, 1, 0, 1, 0, 0, 1, 0, 0, 0]) (y := C6 [1, 1, 1, 1, 1, 0, 1, 0, 0, 1, 0, 0, 1]) (by kernel_rfl) ?_
          refine at_region (id := 9) 34 (by kernel_rfl) (by kernel_rfl) ?_
          refine s_load 50 (.agg #[.int .i64 dk1, .int .i64 dl1, .int .i64 di1, .int .i64 ds1, .int .i64 dt1, .int .i64 dh1, .slice a1 m1 c1, .int .i64 dn1, .int .i64 dd1]) (by kernel_rfl) (by kernel_rfl) (loadN (off := 0) (vs := [.int .i64 dk1, .int .i64 dl1, .int .i64 di1, .int .i64 ds1, .int .i64 dt1, .int .i64 dh1, .slice a1 m1 c1, .int .i64 dn1, .int .i64 dd1]) 9 (fun _ => by kernel_rfl) (holds_own (.there (.there .here))) rfl (by exact ⟨rfl, rfl, rfl, rfl, rfl, rfl, rfl, rfl, rfl, trivial⟩)) ?_
          refine s_pure 51 (.int .i64 i2) (by kernel_rfl) (by kernel_rfl) (fun _ => by kernel_rfl) ?_
          refine s_pure 52 (.pointer (some ⟨b8, 2, none⟩)) (by kernel_rfl) (by kernel_rfl) (fun _ => by kernel_rfl) ?_
          refine s_load 53 (.int .i64 di1) (by kernel_rfl) (by kernel_rfl) (load1 (off := 2) (fun _ => by kernel_rfl) (holds_own (.there (.there .here))) (by kernel_rfl)) ?_
          refine s_pure 54 (.pointer (some ⟨b8, 1, none⟩)) (by kernel_rfl) (by kernel_rfl) (fun _ => by kernel_rfl) ?_
          refine s_load 55 (.int .i64 dl1) (by kernel_rfl) (by kernel_rfl) (load1 (off := 1) (fun _ => by kernel_rfl) (holds_own (.there (.there .here))) (by kernel_rfl)) ?_
          refine s_pure 56 (.agg #[.int .i64 i2, .int .i64 (0), .int .i64 (0), .int .i64 di1, .int .i64 dl1, .int .i64 (0), .int .i64 (0), .bool false, .slice none 0 0]) (by kernel_rfl) (by kernel_rfl) (fun _ => by kernel_rfl) ?_
          refine s_quiet 57 (.bool (decide (i2 = (answerI (kindI ds1))))) 27 #[.agg #[.int .i64 dk1, .int .i64 dl1, .int .i64 di1, .int .i64 ds1, .int .i64 dt1, .int .i64 dh1, .slice a1 m1 c1, .int .i64 dn1, .int .i64 dd1], .agg #[.int .i64 i2, .int .i64 (0), .int .i64 (0), .int .i64 di1, .int .i64 dl1, .int .i64 (0), .int .i64 (0), .bool false, .slice none 0 0]] (by kernel_rfl) (by kernel_rfl) (fun _ => by kernel_rfl) (Tr.as (Fits_tr ds1 dk1 dl1 di1 dt1 dh1 dn1 dd1 a1 m1 c1 i2 (0) (0) di1 dl1 (0) (0) false none 0 0) (congrArg Value.bool (show fitsB ds1 di1 dl1 i2 di1 dl1 = decide (i2 = (answerI (kindI ds1))) from fits_is h1 h2 rfl rfl))) ?_
          refine s_pure 58 (.int .i64 i2) (by kernel_rfl) (by kernel_rfl) (fun _ => by kernel_rfl) ?_
          refine s_pure 59 (.int .i64 (answerI (kindI ds1))) (by kernel_rfl) (by kernel_rfl) (fun _ => by kernel_rfl) ?_
          refine s_pure 60 (.bool (decide (i2 = (answerI (kindI ds1))))) (by kernel_rfl) (by kernel_rfl) (fun _ => by kernel_rfl) ?_
          refine s_pure 61 (.bool false) (by kernel_rfl) (by kernel_rfl) (run_eq (v := .bool (!((decide (i2 = (answerI (kindI ds1)))) == (decide (i2 = (answerI (kindI ds1))))))) (fun _ => by kernel_rfl) (congrArg Value.bool (by rw [beq_self_eq_true]; rfl))) ?_
          refine s_pure 62 (.bool false) (by kernel_rfl) (by kernel_rfl) (fun _ => by kernel_rfl) ?_
          refine s_load 63 (.agg #[.int .i64 dk1, .int .i64 dl1, .int .i64 di1, .int .i64 ds1, .int .i64 dt1, .int .i64 dh1, .slice a1 m1 c1, .int .i64 dn1, .int .i64 dd1]) (by kernel_rfl) (by kernel_rfl) (loadN (off := 0) (vs := [.int .i64 dk1, .int .i64 dl1, .int .i64 di1, .int .i64 ds1, .int .i64 dt1, .int .i64 dh1, .slice a1 m1 c1, .int .i64 dn1, .int .i64 dd1]) 9 (fun _ => by kernel_rfl) (holds_own (.there (.there .here))) rfl (by exact ⟨rfl, rfl, rfl, rfl, rfl, rfl, rfl, rfl, rfl, trivial⟩)) ?_
          refine s_pure 64 (.int .i64 i2) (by kernel_rfl) (by kernel_rfl) (fun _ => by kernel_rfl) ?_
          refine s_pure 65 (.pointer (some ⟨b8, 2, none⟩)) (by kernel_rfl) (by kernel_rfl) (fun _ => by kernel_rfl) ?_
          refine s_load 66 (.int .i64 di1) (by kernel_rfl) (by kernel_rfl) (load1 (off := 2) (fun _ => by kernel_rfl) (holds_own (.there (.there .here))) (by kernel_rfl)) ?_
          refine s_pure 67 (.int .i64 (di1 + 1)) (by kernel_rfl) (by kernel_rfl) (run_eq (v := .int .i64 (IntKind.i64.wrap (di1 + 1))) (fun _ => by kernel_rfl) (by rw [wrap_in (by omega) (by omega)])) ?_
          refine s_pure 68 (.pointer (some ⟨b8, 1, none⟩)) (by kernel_rfl) (by kernel_rfl) (fun _ => by kernel_rfl) ?_
          refine s_load 69 (.int .i64 dl1) (by kernel_rfl) (by kernel_rfl) (load1 (off := 1) (fun _ => by kernel_rfl) (holds_own (.there (.there .here))) (by kernel_rfl)) ?_
          refine s_pure 70 (.agg #[.int .i64 i2, .int .i64 (0), .int .i64 (0), .int .i64 (di1 + 1), .int .i64 dl1, .int .i64 (0), .int .i64 (0), .bool false, .slice none 0 0]) (by kernel_rfl) (by kernel_rfl) (fun _ => by kernel_rfl) ?_
          refine s_quiet 71 (.bool false) 27 #[.agg #[.int .i64 dk1, .int .i64 dl1, .int .i64 di1, .int .i64 ds1, .int .i64 dt1, .int .i64 dh1, .slice a1 m1 c1, .int .i64 dn1, .int .i64 dd1], .agg #[.int .i64 i2, .int .i64 (0), .int .i64 (0), .int .i64 (di1 + 1), .int .i64 dl1, .int .i64 (0), .int .i64 (0), .bool false, .slice none 0 0]] (by kernel_rfl) (by kernel_rfl) (fun _ => by kernel_rfl) (Tr.as (Fits_tr ds1 dk1 dl1 di1 dt1 dh1 dn1 dd1 a1 m1 c1 i2 (0) (0) (di1 + 1) dl1 (0) (0) false none 0 0) (congrArg Value.bool (show fitsB ds1 di1 dl1 i2 (di1 + 1) dl1 = false from fits_not (by omega)))) ?_
          refine s_pure 72 (.bool false) (by kernel_rfl) (by kernel_rfl) (fun _ => by kernel_rfl) ?_
          refine s_pure 73 (.bool false) (by kernel_rfl) (by kernel_rfl) (fun _ => by kernel_rfl) ?_
          refine s_load 74 (.agg #[.int .i64 dk1, .int .i64 dl1, .int .i64 di1, .int .i64 ds1, .int .i64 dt1, .int .i64 dh1, .slice a1 m1 c1, .int .i64 dn1, .int .i64 dd1]) (by kernel_rfl) (by kernel_rfl) (loadN (off := 0) (vs := [.int .i64 dk1, .int .i64 dl1, .int .i64 di1, .int .i64 ds1, .int .i64 dt1, .int .i64 dh1, .slice a1 m1 c1, .int .i64 dn1, .int .i64 dd1]) 9 (fun _ => by kernel_rfl) (holds_own (.there (.there .here))) rfl (by exact ⟨rfl, rfl, rfl, rfl, rfl, rfl, rfl, rfl, rfl, trivial⟩)) ?_
          refine s_pure 75 (.int .i64 i2) (by kernel_rfl) (by kernel_rfl) (fun _ => by kernel_rfl) ?_
          refine s_pure 76 (.pointer (some ⟨b8, 2, none⟩)) (by kernel_rfl) (by kernel_rfl) (fun _ => by kernel_rfl) ?_
          refine s_load 77 (.int .i64 di1) (by kernel_rfl) (by kernel_rfl) (load1 (off := 2) (fun _ => by kernel_rfl) (holds_own (.there (.there .here))) (by kernel_rfl)) ?_
          refine s_pure 78 (.pointer (some ⟨b8, 1, none⟩)) (by kernel_rfl) (by kernel_rfl) (fun _ => by kernel_rfl) ?_
          refine s_load 79 (.int .i64 dl1) (by kernel_rfl) (by kernel_rfl) (load1 (off := 1) (fun _ => by kernel_rfl) (holds_own (.there (.there .here))) (by kernel_rfl)) ?_
          refine s_pure 80 (.int .i64 (dl1 + 1)) (by kernel_rfl) (by kernel_rfl) (run_eq (v := .int .i64 (IntKind.i64.wrap (dl1 + 1))) (fun _ => by kernel_rfl) (by rw [wrap_in (by omega) (by omega)])) ?_
          refine s_pure 81 (.agg #[.int .i64 i2, .int .i64 (0), .int .i64 (0), .int .i64 di1, .int .i64 (dl1 + 1), .int .i64 (0), .int .i64 (0), .bool false, .slice none 0 0]) (by kernel_rfl) (by kernel_rfl) (fun _ => by kernel_rfl) ?_
          refine s_quiet 82 (.bool false) 27 #[.agg #[.int .i64 dk1, .int .i64 dl1, .int .i64 di1, .int .i64 ds1, .int .i64 dt1, .int .i64 dh1, .slice a1 m1 c1, .int .i64 dn1, .int .i64 dd1], .agg #[.int .i64 i2, .int .i64 (0), .int .i64 (0), .int .i64 di1, .int .i64 (dl1 + 1), .int .i64 (0), .int .i64 (0), .bool false, .slice none 0 0]] (by kernel_rfl) (by kernel_rfl) (fun _ => by kernel_rfl) (Tr.as (Fits_tr ds1 dk1 dl1 di1 dt1 dh1 dn1 dd1 a1 m1 c1 i2 (0) (0) di1 (dl1 + 1) (0) (0) false none 0 0) (congrArg Value.bool (show fitsB ds1 di1 dl1 i2 di1 (dl1 + 1) = false from fits_not (by omega)))) ?_
          refine s_pure 83 (.bool false) (by kernel_rfl) (by kernel_rfl) (fun _ => by kernel_rfl) ?_
          refine ops_end ?_
          refine At.env [(0, .agg #[.int .i64 rk, .int .i64 rl, .int .i64 ri, .int .i64 rs, .int .i64 rt, .int .i64 rh, .int .i64 rn, .int .i64 rd, .slice a m cap]), (1, .int .i64 node), (2, .int .i64 home), (3, .pointer (some ⟨b1, 0, none⟩)), (6, .bool false), (7, .pointer (some ⟨b8, 0, none⟩)), (8, .pointer (some ⟨b10, 0, none⟩)), (9, .int .i64 (answerI (kindI ds1))), (10, .int .i64 i2), (26, .bool false), (47, .bool true), (83, .bool false)] ⟨by kernel_rfl, by kernel_rfl, by kernel_rfl, by kernel_rfl, by kernel_rfl, by kernel_rfl, by kernel_rfl, by kernel_rfl, by kernel_rfl, by kernel_rfl, by kernel_rfl, by kernel_rfl, trivial⟩ ?_
          refine at_then_normal ?_
          refine at_false (t := false) (x := C6 [1, 1, 1, 1, 1, 0, 1, 0, 0, 1, 0, 0, 1, 0]) (y := C6 [1, 1, 1, 1, 1, 0, 1, 0, 0, 1, 0, 0, 1, 1]) (o := .tmp 83) (by kernel_rfl) (by kernel_rfl) (by kernel_rfl) rfl ?_
          refine at_skip (by kernel_rfl) ?_
          refine at_in_normal ?_
          refine at_then_normal ?_
          refine at_region (id := 8) 3 (by kernel_rfl) (by kernel_rfl) ?_
          refine s_pure 48 (.int .i64 i2) (by kernel_rfl) (by kernel_rfl) (fun _ => by kernel_rfl) ?_
          refine s_pure 49 (.int .i64 (i2 + 1)) (by kernel_rfl) (by kernel_rfl) (run_eq (v := .int .i64 (IntKind.i64.wrap (i2 + 1))) (fun _ => by kernel_rfl) (by rw [wrap_in (by omega) (by omega)])) ?_
          refine s_pure 10 (.int .i64 (i2 + 1)) (by kernel_rfl) (by kernel_rfl) (fun _ => by kernel_rfl) ?_
          refine ops_end ?_
          refine At.env [(0, .agg #[.int .i64 rk, .int .i64 rl, .int .i64 ri, .int .i64 rs, .int .i64 rt, .int .i64 rh, .int .i64 rn, .int .i64 rd, .slice a m cap]), (1, .int .i64 node), (2, .int .i64 home), (3, .pointer (some ⟨b1, 0, none⟩)), (6, .bool false), (7, .pointer (some ⟨b8, 0, none⟩)), (8, .pointer (some ⟨b10, 0, none⟩)), (9, .int .i64 (answerI (kindI ds1))), (10, .int .i64 (i2 + 1)), (26, .bool false), (47, .bool true), (83, .bool false)] ⟨by kernel_rfl, by kernel_rfl, by kernel_rfl, by kernel_rfl, by kernel_rfl, by kernel_rfl, by kernel_rfl, by kernel_rfl, by kernel_rfl, by kernel_rfl, by kernel_rfl, by kernel_rfl, trivial⟩ ?_
          refine at_round_normal ?_
          exact at_roundR (((11 : Int) - (i2 + 1)).toNat) [(0, .agg #[.int .i64 rk, .int .i64 rl, .int .i64 ri, .int .i64 rs, .int .i64 rt, .int .i64 rh, .int .i64 rn, .int .i64 rd, .slice a m cap]), (1, .int .i64 node), (2, .int .i64 home), (3, .pointer (some ⟨b1, 0, none⟩)), (6, .bool false), (7, .pointer (some ⟨b8, 0, none⟩)), (8, .pointer (some ⟨b10, 0, none⟩)), (9, .int .i64 (answerI (kindI ds1))), (10, .int .i64 (i2 + 1)), (26, .bool false)] ([Asn.own b10 (.cells #[.int .i64 (kindI ds1), .int .i64 (node % 6), .int .i64 (toI ds1 (home % 6) dh1 dn1), .int .i64 di1, .int .i64 dl1, .int .i64 (ptrI ds1 (node % 6) dh1 dn1), .int .i64 (stateI ds1 dt1), .bool (flagI ds1 (xs.take 3).length), .slice a3 m3 c3] 38 (0, 0)), IntsA a3 c3 (dataI ds1 (xs.take 3)), Asn.own b8 (.cells #[.int .i64 dk1, .int .i64 dl1, .int .i64 di1, .int .i64 ds1, .int .i64 dt1, .int .i64 dh1, .slice a1 m1 c1, .int .i64 dn1, .int .i64 dd1] 36 (0, 0)), IntsA a1 c1 (xs.take 3), Asn.own b1 (.cells #[.int .i64 rk, .int .i64 rl, .int .i64 ri, .int .i64 rs, .int .i64 rt, .int .i64 rh, .int .i64 rn, .int .i64 rd, .slice a m cap] 44 (0, 0))]) (by omega) ⟨by kernel_rfl, by kernel_rfl, by kernel_rfl, by kernel_rfl, by kernel_rfl, by kernel_rfl, by kernel_rfl, by kernel_rfl, by kernel_rfl, by kernel_rfl, trivial⟩ (fun w hw => hw.less (.take .here (.take .here (.take .here (.take .here (.take .here .refl)))))) ⟨i2 + 1, (by omega), (by omega), rfl, rfl, rfl⟩
        · refine s_pure 47 (.bool false) (by kernel_rfl) (by kernel_rfl) (run_eq (v := .bool (decide (i2 ≤ (10 : Int)))) (fun _ => by kernel_rfl) (congrArg Value.bool (by rw [decide_eq_false h4]))) ?_
          refine ops_end ?_
          refine At.env [(0, .agg #[.int .i64 rk, .int .i64 rl, .int .i64 ri, .int .i64 rs, .int .i64 rt, .int .i64 rh, .int .i64 rn, .int .i64 rd, .slice a m cap]), (1, .int .i64 node), (2, .int .i64 home), (3, .pointer (some ⟨b1, 0, none⟩)), (6, .bool false), (7, .pointer (some ⟨b8, 0, none⟩)), (8, .pointer (some ⟨b10, 0, none⟩)), (9, .int .i64 (answerI (kindI ds1))), (10, .int .i64 i2), (26, .bool false), (47, .bool false)] ⟨by kernel_rfl, by kernel_rfl, by kernel_rfl, by kernel_rfl, by kernel_rfl, by kernel_rfl, by kernel_rfl, by kernel_rfl, by kernel_rfl, by kernel_rfl, by kernel_rfl, trivial⟩ ?_
          refine at_then_normal ?_
          refine at_false (t := false) (x := C6 [1, 1, 1, 1, 1, 0, 1, 0, 0, 0, 1, 0]) (y := C6 [1, 1, 1, 1, 1, 0, 1, 0, 0, 0, 1, 1]) (o := .tmp 47) (by kernel_rfl) (by kernel_rfl) (by kernel_rfl) rfl ?_
          refine at_exit (i := 0) (by kernel_rfl) ?_
          refine at_then_exit ?_
          refine at_then_exit ?_
          refine at_in_here ?_
          refine at_then_normal ?_
          refine at_seq (x := C6 [1, 1, 1, 1, 1, 1, 0]) (y := C6 [1, 1, 1, 1, 1, 1, 1]) (by kernel_rfl) ?_
          refine at_region_draw (id := 11) (by kernel_rfl) (by kernel_rfl) ?_
          refine d_pure 0 84 (.int .i64 (answerI (kindI ds1))) (by kernel_rfl) (by kernel_rfl) (by kernel_rfl) (fun _ => by kernel_rfl) ?_
          refine d_pure 1 85 (.bool true) (by kernel_rfl) (by kernel_rfl) (by kernel_rfl) (run_eq (v := .bool (!(decide ((answerI (kindI ds1)) = (0 : Int))))) (fun _ => by kernel_rfl) (congrArg Value.bool (by rw [decide_eq_false (answer_ne h1 h2)]; rfl))) ?_
          refine d_pure 2 86 (.bool true) (by kernel_rfl) (by kernel_rfl) (by kernel_rfl) (fun _ => by kernel_rfl) ?_
          refine d_pure 3 87 (.pointer (some ⟨b10, 3, none⟩)) (by kernel_rfl) (by kernel_rfl) (by kernel_rfl) (fun _ => by kernel_rfl) ?_
          refine d_load 4 88 (.int .i64 di1) (by kernel_rfl) (by kernel_rfl) (by kernel_rfl) (load1 (off := 3) (fun _ => by kernel_rfl) (holds_own .here) (by kernel_rfl)) ?_
          refine d_pure 5 89 (.pointer (some ⟨b8, 2, none⟩)) (by kernel_rfl) (by kernel_rfl) (by kernel_rfl) (fun _ => by kernel_rfl) ?_
          refine d_load 6 90 (.int .i64 di1) (by kernel_rfl) (by kernel_rfl) (by kernel_rfl) (load1 (off := 2) (fun _ => by kernel_rfl) (holds_own (.there (.there .here))) (by kernel_rfl)) ?_
          refine d_pure 7 91 (.bool true) (by kernel_rfl) (by kernel_rfl) (by kernel_rfl) (run_eq (v := .bool (decide (di1 = di1))) (fun _ => by kernel_rfl) (congrArg Value.bool (by rw [decide_eq_true rfl]))) ?_
          refine d_pure 8 92 (.bool true) (by kernel_rfl) (by kernel_rfl) (by kernel_rfl) (fun _ => by kernel_rfl) ?_
          refine d_pure 9 93 (.bool true) (by kernel_rfl) (by kernel_rfl) (by kernel_rfl) (fun _ => by kernel_rfl) ?_
          refine d_pure 10 94 (.pointer (some ⟨b10, 4, none⟩)) (by kernel_rfl) (by kernel_rfl) (by kernel_rfl) (fun _ => by kernel_rfl) ?_
          refine d_load 11 95 (.int .i64 dl1) (by kernel_rfl) (by kernel_rfl) (by kernel_rfl) (load1 (off := 4) (fun _ => by kernel_rfl) (holds_own .here) (by kernel_rfl)) ?_
          refine d_pure 12 96 (.pointer (some ⟨b8, 1, none⟩)) (by kernel_rfl) (by kernel_rfl) (by kernel_rfl) (fun _ => by kernel_rfl) ?_
          refine d_load 13 97 (.int .i64 dl1) (by kernel_rfl) (by kernel_rfl) (by kernel_rfl) (load1 (off := 1) (fun _ => by kernel_rfl) (holds_own (.there (.there .here))) (by kernel_rfl)) ?_
          refine d_pure 14 98 (.bool true) (by kernel_rfl) (by kernel_rfl) (by kernel_rfl) (run_eq (v := .bool (decide (dl1 = dl1))) (fun _ => by kernel_rfl) (congrArg Value.bool (by rw [decide_eq_true rfl]))) ?_
          refine d_pure 15 99 (.bool true) (by kernel_rfl) (by kernel_rfl) (by kernel_rfl) (fun _ => by kernel_rfl) ?_
          refine d_pure 16 100 (.bool true) (by kernel_rfl) (by kernel_rfl) (by kernel_rfl) (fun _ => by kernel_rfl) ?_
          refine d_pure 17 101 (.pointer (some ⟨b10, 1, none⟩)) (by kernel_rfl) (by kernel_rfl) (by kernel_rfl) (fun _ => by kernel_rfl) ?_
          refine d_load 18 102 (.int .i64 (node % 6)) (by kernel_rfl) (by kernel_rfl) (by kernel_rfl) (load1 (off := 1) (fun _ => by kernel_rfl) (holds_own .here) (by kernel_rfl)) ?_
          refine d_pure 19 103 (.int .i64 node) (by kernel_rfl) (by kernel_rfl) (by kernel_rfl) (fun _ => by kernel_rfl) ?_
          refine d_quiet 20 104 (.int .i64 (node % 6)) 12 #[.int .i64 node, .int .i64 (6)] (by kernel_rfl) (by kernel_rfl) (by kernel_rfl) (fun _ => by kernel_rfl) (fun _ => (Within_tr (node) (6) (by omega) (by omega))) ?_
          refine d_pure 21 105 (.bool true) (by kernel_rfl) (by kernel_rfl) (by kernel_rfl) (run_eq (v := .bool (decide ((node % 6) = (node % 6)))) (fun _ => by kernel_rfl) (congrArg Value.bool (by rw [decide_eq_true rfl]))) ?_
          refine d_pure 22 106 (.bool true) (by kernel_rfl) (by kernel_rfl) (by kernel_rfl) (fun _ => by kernel_rfl) ?_
          refine d_pure 23 107 (.bool true) (by kernel_rfl) (by kernel_rfl) (by kernel_rfl) (fun _ => by kernel_rfl) ?_
          refine d_quiet 24 108 (.bool true) 22 #[] (by kernel_rfl) (by kernel_rfl) (by kernel_rfl) (fun _ => by kernel_rfl) (fun _ => Wakes_tr) ?_
          refine d_pure 25 109 (.bool true) (by kernel_rfl) (by kernel_rfl) (by kernel_rfl) (fun _ => by kernel_rfl) ?_
          refine d_pure 26 6 (.bool true) (by kernel_rfl) (by kernel_rfl) (by kernel_rfl) (fun _ => by kernel_rfl) ?_
          refine draw_end (by kernel_rfl) ?_
          refine At.env [(0, .agg #[.int .i64 rk, .int .i64 rl, .int .i64 ri, .int .i64 rs, .int .i64 rt, .int .i64 rh, .int .i64 rn, .int .i64 rd, .slice a m cap]), (1, .int .i64 node), (2, .int .i64 home), (3, .pointer (some ⟨b1, 0, none⟩)), (6, .bool true), (7, .pointer (some ⟨b8, 0, none⟩)), (8, .pointer (some ⟨b10, 0, none⟩)), (9, .int .i64 (answerI (kindI ds1))), (10, .int .i64 i2), (26, .bool false), (47, .bool false)] ⟨by kernel_rfl, by kernel_rfl, by kernel_rfl, by kernel_rfl, by kernel_rfl, by kernel_rfl, by kernel_rfl, by kernel_rfl, by kernel_rfl, by kernel_rfl, by kernel_rfl, trivial⟩ ?_
          refine at_then_normal ?_
          refine at_ret (by kernel_rfl) ?_
          refine at_backR [.bool true] [] (rs := [.tmp 6]) (by kernel_rfl) (.cons (.tmp (by kernel_rfl)) .nil) (fun w hw => hw.less (.drop .here (.drop .here (.drop .here (.drop .here (.drop .here .refl)))))) rfl
end Go.Proofs.Ytpcffplbedbpkaa
