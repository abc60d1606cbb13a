/- Calls of the checksum, run. -/
import Derived.Test.YthlggkkagjfelaaGreatDoorEnBase
namespace Go.Proofs.YthlggkkagjfelaaGreatDoor
open Go.Ex
noncomputable def e0 : Ent := ⟨123, [(u32 0), (.sl 1177 0 8 (.of 1))], 1178,
  [(1177, .cells (ys [19, 136, 19, 136, 0, 0, 0, 0, 0, 0, 0, 0, 1, 0, 0, 20, 0, 0, 0, 1, 0, 1, 0, 0, 0, 2, 0, 2, 0, 0, 0, 10]) false)],
  (u32 925690585), 1178,
  []⟩
theorem e0_ok : e0.OK Tryz.prog := ⟨_, rec_ok (l := []) AllOK.nil, by kernel_rfl⟩

noncomputable def e1 : Ent := ⟨123, [(u32 925690585), (.sl 1178 0 4 (.is 4))], 1179,
  [(1178, .cells (ys [0, 0, 0, 0]) false)],
  (u32 3774916870), 1179,
  []⟩
theorem e1_ok : e1.OK Tryz.prog := ⟨_, rec_ok (l := []) AllOK.nil, by kernel_rfl⟩

noncomputable def e2 : Ent := ⟨123, [(u32 3774916870), (.sl 1177 12 20 (.of 1))], 1179,
  [(1177, .cells (ys [19, 136, 19, 136, 0, 0, 0, 0, 0, 0, 0, 0, 1, 0, 0, 20, 0, 0, 0, 1, 0, 1, 0, 0, 0, 2, 0, 2, 0, 0, 0, 10]) false)],
  (u32 9065581), 1179,
  []⟩
theorem e2_ok : e2.OK Tryz.prog := ⟨_, rec_ok (l := []) AllOK.nil, by kernel_rfl⟩

noncomputable def e3 : Ent := ⟨123, [(u32 0), (.sl 1192 0 8 (.of 1))], 1195,
  [(1192, .cells (ys [19, 136, 19, 136, 0, 0, 0, 0, 0, 138, 84, 109, 1, 0, 0, 20, 0, 0, 0, 1, 0, 1, 0, 0, 0, 2, 0, 2, 0, 0, 0, 10]) false)],
  (u32 925690585), 1195,
  []⟩
theorem e3_ok : e3.OK Tryz.prog := ⟨_, rec_ok (l := []) AllOK.nil, by kernel_rfl⟩

noncomputable def e4 : Ent := ⟨123, [(u32 925690585), (.sl 1195 0 4 (.is 4))], 1196,
  [(1195, .cells (ys [0, 0, 0, 0]) false)],
  (u32 3774916870), 1196,
  []⟩
theorem e4_ok : e4.OK Tryz.prog := ⟨_, rec_ok (l := []) AllOK.nil, by kernel_rfl⟩

noncomputable def e5 : Ent := ⟨123, [(u32 3774916870), (.sl 1192 12 20 (.of 1))], 1196,
  [(1192, .cells (ys [19, 136, 19, 136, 0, 0, 0, 0, 0, 138, 84, 109, 1, 0, 0, 20, 0, 0, 0, 1, 0, 1, 0, 0, 0, 2, 0, 2, 0, 0, 0, 10]) false)],
  (u32 9065581), 1196,
  []⟩
theorem e5_ok : e5.OK Tryz.prog := ⟨_, rec_ok (l := []) AllOK.nil, by kernel_rfl⟩

noncomputable def e14 : Ent := ⟨123, [(u32 0), (.sl 1835 0 8 (.of 1))], 1836,
  [(1835, .cells (ys [19, 136, 19, 136, 0, 0, 0, 1, 0, 0, 0, 0, 2, 0, 0, 88, 83, 231, 216, 177, 0, 1, 0, 0, 0, 2, 0, 2, 23, 150, 107, 239, 0, 7, 0, 68, 0, 0, 0, 0, 0, 0, 0, 1, 83, 231, 216, 177, 0, 0, 0, 1, 23, 150, 107, 239, 0, 0, 0, 10, 0, 1, 0, 0, 0, 2, 0, 2, 221, 135, 192, 183, 168, 50, 10, 52, 29, 182, 237, 184, 223, 242, 122, 223, 27, 89, 210, 94, 133, 189, 115, 24, 21, 52, 34, 34, 109, 8, 87, 93]) false)],
  (u32 3309791706), 1836,
  []⟩
theorem e14_ok : e14.OK Tryz.prog := ⟨_, rec_ok (l := []) AllOK.nil, by kernel_rfl⟩

noncomputable def e15 : Ent := ⟨123, [(u32 3309791706), (.sl 1836 0 4 (.is 4))], 1837,
  [(1836, .cells (ys [0, 0, 0, 0]) false)],
  (u32 3641820842), 1837,
  []⟩
theorem e15_ok : e15.OK Tryz.prog := ⟨_, rec_ok (l := []) AllOK.nil, by kernel_rfl⟩

noncomputable def e16 : Ent := ⟨123, [(u32 3641820842), (.sl 1835 12 88 (.of 1))], 1837,
  [(1835, .cells (ys [19, 136, 19, 136, 0, 0, 0, 1, 0, 0, 0, 0, 2, 0, 0, 88, 83, 231, 216, 177, 0, 1, 0, 0, 0, 2, 0, 2, 23, 150, 107, 239, 0, 7, 0, 68, 0, 0, 0, 0, 0, 0, 0, 1, 83, 231, 216, 177, 0, 0, 0, 1, 23, 150, 107, 239, 0, 0, 0, 10, 0, 1, 0, 0, 0, 2, 0, 2, 221, 135, 192, 183, 168, 50, 10, 52, 29, 182, 237, 184, 223, 242, 122, 223, 27, 89, 210, 94, 133, 189, 115, 24, 21, 52, 34, 34, 109, 8, 87, 93]) false)],
  (u32 1417942014), 1837,
  []⟩
theorem e16_ok : e16.OK Tryz.prog := ⟨_, rec_ok (l := []) AllOK.nil, by kernel_rfl⟩

noncomputable def e18 : Ent := ⟨123, [(u32 0), (.sl 1854 0 8 (.of 1))], 1857,
  [(1854, .cells (ys [19, 136, 19, 136, 0, 0, 0, 1, 84, 132, 19, 254, 2, 0, 0, 88, 83, 231, 216, 177, 0, 1, 0, 0, 0, 2, 0, 2, 23, 150, 107, 239, 0, 7, 0, 68, 0, 0, 0, 0, 0, 0, 0, 1, 83, 231, 216, 177, 0, 0, 0, 1, 23, 150, 107, 239, 0, 0, 0, 10, 0, 1, 0, 0, 0, 2, 0, 2, 221, 135, 192, 183, 168, 50, 10, 52, 29, 182, 237, 184, 223, 242, 122, 223, 27, 89, 210, 94, 133, 189, 115, 24, 21, 52, 34, 34, 109, 8, 87, 93]) false)],
  (u32 3309791706), 1857,
  []⟩
theorem e18_ok : e18.OK Tryz.prog := ⟨_, rec_ok (l := []) AllOK.nil, by kernel_rfl⟩

noncomputable def e19 : Ent := ⟨123, [(u32 3309791706), (.sl 1857 0 4 (.is 4))], 1858,
  [(1857, .cells (ys [0, 0, 0, 0]) false)],
  (u32 3641820842), 1858,
  []⟩
theorem e19_ok : e19.OK Tryz.prog := ⟨_, rec_ok (l := []) AllOK.nil, by kernel_rfl⟩

noncomputable def e20 : Ent := ⟨123, [(u32 3641820842), (.sl 1854 12 88 (.of 1))], 1858,
  [(1854, .cells (ys [19, 136, 19, 136, 0, 0, 0, 1, 84, 132, 19, 254, 2, 0, 0, 88, 83, 231, 216, 177, 0, 1, 0, 0, 0, 2, 0, 2, 23, 150, 107, 239, 0, 7, 0, 68, 0, 0, 0, 0, 0, 0, 0, 1, 83, 231, 216, 177, 0, 0, 0, 1, 23, 150, 107, 239, 0, 0, 0, 10, 0, 1, 0, 0, 0, 2, 0, 2, 221, 135, 192, 183, 168, 50, 10, 52, 29, 182, 237, 184, 223, 242, 122, 223, 27, 89, 210, 94, 133, 189, 115, 24, 21, 52, 34, 34, 109, 8, 87, 93]) false)],
  (u32 1417942014), 1858,
  []⟩
theorem e20_ok : e20.OK Tryz.prog := ⟨_, rec_ok (l := []) AllOK.nil, by kernel_rfl⟩

noncomputable def e21 : Ent := ⟨123, [(u32 0), (.sl 2027 0 8 (.of 1))], 2028,
  [(2027, .cells (ys [19, 136, 19, 136, 83, 231, 216, 177, 0, 0, 0, 0, 10, 0, 0, 68, 0, 0, 0, 0, 0, 0, 0, 1, 83, 231, 216, 177, 0, 0, 0, 1, 23, 150, 107, 239, 0, 0, 0, 10, 0, 1, 0, 0, 0, 2, 0, 2, 221, 135, 192, 183, 168, 50, 10, 52, 29, 182, 237, 184, 223, 242, 122, 223, 27, 89, 210, 94, 133, 189, 115, 24, 21, 52, 34, 34, 109, 8, 87, 93]) false)],
  (u32 675355347), 2028,
  []⟩
theorem e21_ok : e21.OK Tryz.prog := ⟨_, rec_ok (l := []) AllOK.nil, by kernel_rfl⟩

noncomputable def e22 : Ent := ⟨123, [(u32 675355347), (.sl 2028 0 4 (.is 4))], 2029,
  [(2028, .cells (ys [0, 0, 0, 0]) false)],
  (u32 2070576187), 2029,
  []⟩
theorem e22_ok : e22.OK Tryz.prog := ⟨_, rec_ok (l := []) AllOK.nil, by kernel_rfl⟩

noncomputable def e23 : Ent := ⟨123, [(u32 2070576187), (.sl 2027 12 68 (.of 1))], 2029,
  [(2027, .cells (ys [19, 136, 19, 136, 83, 231, 216, 177, 0, 0, 0, 0, 10, 0, 0, 68, 0, 0, 0, 0, 0, 0, 0, 1, 83, 231, 216, 177, 0, 0, 0, 1, 23, 150, 107, 239, 0, 0, 0, 10, 0, 1, 0, 0, 0, 2, 0, 2, 221, 135, 192, 183, 168, 50, 10, 52, 29, 182, 237, 184, 223, 242, 122, 223, 27, 89, 210, 94, 133, 189, 115, 24, 21, 52, 34, 34, 109, 8, 87, 93]) false)],
  (u32 3585351290), 2029,
  []⟩
theorem e23_ok : e23.OK Tryz.prog := ⟨_, rec_ok (l := []) AllOK.nil, by kernel_rfl⟩

noncomputable def e25 : Ent := ⟨123, [(u32 0), (.sl 2046 0 8 (.of 1))], 2049,
  [(2046, .cells (ys [19, 136, 19, 136, 83, 231, 216, 177, 213, 180, 30, 122, 10, 0, 0, 68, 0, 0, 0, 0, 0, 0, 0, 1, 83, 231, 216, 177, 0, 0, 0, 1, 23, 150, 107, 239, 0, 0, 0, 10, 0, 1, 0, 0, 0, 2, 0, 2, 221, 135, 192, 183, 168, 50, 10, 52, 29, 182, 237, 184, 223, 242, 122, 223, 27, 89, 210, 94, 133, 189, 115, 24, 21, 52, 34, 34, 109, 8, 87, 93]) false)],
  (u32 675355347), 2049,
  []⟩
theorem e25_ok : e25.OK Tryz.prog := ⟨_, rec_ok (l := []) AllOK.nil, by kernel_rfl⟩

noncomputable def e26 : Ent := ⟨123, [(u32 675355347), (.sl 2049 0 4 (.is 4))], 2050,
  [(2049, .cells (ys [0, 0, 0, 0]) false)],
  (u32 2070576187), 2050,
  []⟩
theorem e26_ok : e26.OK Tryz.prog := ⟨_, rec_ok (l := []) AllOK.nil, by kernel_rfl⟩

noncomputable def e27 : Ent := ⟨123, [(u32 2070576187), (.sl 2046 12 68 (.of 1))], 2050,
  [(2046, .cells (ys [19, 136, 19, 136, 83, 231, 216, 177, 213, 180, 30, 122, 10, 0, 0, 68, 0, 0, 0, 0, 0, 0, 0, 1, 83, 231, 216, 177, 0, 0, 0, 1, 23, 150, 107, 239, 0, 0, 0, 10, 0, 1, 0, 0, 0, 2, 0, 2, 221, 135, 192, 183, 168, 50, 10, 52, 29, 182, 237, 184, 223, 242, 122, 223, 27, 89, 210, 94, 133, 189, 115, 24, 21, 52, 34, 34, 109, 8, 87, 93]) false)],
  (u32 3585351290), 2050,
  []⟩
theorem e27_ok : e27.OK Tryz.prog := ⟨_, rec_ok (l := []) AllOK.nil, by kernel_rfl⟩

noncomputable def e32 : Ent := ⟨123, [(u32 0), (.sl 2364 0 8 (.of 1))], 2365,
  [(2364, .cells (ys [19, 136, 19, 136, 0, 0, 0, 1, 0, 0, 0, 0, 11, 0, 0, 4]) false)],
  (u32 3309791706), 2365,
  []⟩
theorem e32_ok : e32.OK Tryz.prog := ⟨_, rec_ok (l := []) AllOK.nil, by kernel_rfl⟩

noncomputable def e33 : Ent := ⟨123, [(u32 3309791706), (.sl 2365 0 4 (.is 4))], 2366,
  [(2365, .cells (ys [0, 0, 0, 0]) false)],
  (u32 3641820842), 2366,
  []⟩
theorem e33_ok : e33.OK Tryz.prog := ⟨_, rec_ok (l := []) AllOK.nil, by kernel_rfl⟩

noncomputable def e34 : Ent := ⟨123, [(u32 3641820842), (.sl 2364 12 4 (.of 1))], 2366,
  [(2364, .cells (ys [19, 136, 19, 136, 0, 0, 0, 1, 0, 0, 0, 0, 11, 0, 0, 4]) false)],
  (u32 3452500424), 2366,
  []⟩
theorem e34_ok : e34.OK Tryz.prog := ⟨_, rec_ok (l := []) AllOK.nil, by kernel_rfl⟩

noncomputable def e36 : Ent := ⟨123, [(u32 0), (.sl 2451 0 8 (.of 1))], 2454,
  [(2451, .cells (ys [19, 136, 19, 136, 0, 0, 0, 1, 205, 200, 249, 200, 11, 0, 0, 4]) false)],
  (u32 3309791706), 2454,
  []⟩
theorem e36_ok : e36.OK Tryz.prog := ⟨_, rec_ok (l := []) AllOK.nil, by kernel_rfl⟩

noncomputable def e37 : Ent := ⟨123, [(u32 3309791706), (.sl 2454 0 4 (.is 4))], 2455,
  [(2454, .cells (ys [0, 0, 0, 0]) false)],
  (u32 3641820842), 2455,
  []⟩
theorem e37_ok : e37.OK Tryz.prog := ⟨_, rec_ok (l := []) AllOK.nil, by kernel_rfl⟩

noncomputable def e38 : Ent := ⟨123, [(u32 3641820842), (.sl 2451 12 4 (.of 1))], 2455,
  [(2451, .cells (ys [19, 136, 19, 136, 0, 0, 0, 1, 205, 200, 249, 200, 11, 0, 0, 4]) false)],
  (u32 3452500424), 2455,
  []⟩
theorem e38_ok : e38.OK Tryz.prog := ⟨_, rec_ok (l := []) AllOK.nil, by kernel_rfl⟩

noncomputable def e48 : Ent := ⟨123, [(u32 0), (.sl 3538 0 8 (.of 1))], 3539,
  [(3538, .cells (ys [19, 136, 19, 136, 0, 0, 0, 1, 0, 0, 0, 0, 4, 0, 0, 16, 0, 1, 0, 12, 0, 0, 0, 0, 0, 0, 0, 13]) false)],
  (u32 3309791706), 3539,
  []⟩
theorem e48_ok : e48.OK Tryz.prog := ⟨_, rec_ok (l := []) AllOK.nil, by kernel_rfl⟩

noncomputable def e49 : Ent := ⟨123, [(u32 3309791706), (.sl 3539 0 4 (.is 4))], 3540,
  [(3539, .cells (ys [0, 0, 0, 0]) false)],
  (u32 3641820842), 3540,
  []⟩
theorem e49_ok : e49.OK Tryz.prog := ⟨_, rec_ok (l := []) AllOK.nil, by kernel_rfl⟩

noncomputable def e50 : Ent := ⟨123, [(u32 3641820842), (.sl 3538 12 16 (.of 1))], 3540,
  [(3538, .cells (ys [19, 136, 19, 136, 0, 0, 0, 1, 0, 0, 0, 0, 4, 0, 0, 16, 0, 1, 0, 12, 0, 0, 0, 0, 0, 0, 0, 13]) false)],
  (u32 2007460317), 3540,
  []⟩
theorem e50_ok : e50.OK Tryz.prog := ⟨_, rec_ok (l := []) AllOK.nil, by kernel_rfl⟩

noncomputable def e51 : Ent := ⟨123, [(u32 0), (.sl 3627 0 8 (.of 1))], 3628,
  [(3627, .cells (ys [19, 136, 19, 136, 0, 0, 0, 1, 0, 0, 0, 0, 4, 0, 0, 16, 0, 1, 0, 12, 0, 0, 0, 0, 0, 0, 0, 13]) false)],
  (u32 3309791706), 3628,
  []⟩
theorem e51_ok : e51.OK Tryz.prog := ⟨_, rec_ok (l := []) AllOK.nil, by kernel_rfl⟩

noncomputable def e52 : Ent := ⟨123, [(u32 3309791706), (.sl 3628 0 4 (.is 4))], 3629,
  [(3628, .cells (ys [0, 0, 0, 0]) false)],
  (u32 3641820842), 3629,
  []⟩
theorem e52_ok : e52.OK Tryz.prog := ⟨_, rec_ok (l := []) AllOK.nil, by kernel_rfl⟩

noncomputable def e53 : Ent := ⟨123, [(u32 3641820842), (.sl 3627 12 16 (.of 1))], 3629,
  [(3627, .cells (ys [19, 136, 19, 136, 0, 0, 0, 1, 0, 0, 0, 0, 4, 0, 0, 16, 0, 1, 0, 12, 0, 0, 0, 0, 0, 0, 0, 13]) false)],
  (u32 2007460317), 3629,
  []⟩
theorem e53_ok : e53.OK Tryz.prog := ⟨_, rec_ok (l := []) AllOK.nil, by kernel_rfl⟩

noncomputable def e55 : Ent := ⟨123, [(u32 0), (.sl 3686 0 8 (.of 1))], 3689,
  [(3686, .cells (ys [19, 136, 19, 136, 0, 0, 0, 1, 119, 167, 105, 221, 4, 0, 0, 16, 0, 1, 0, 12, 0, 0, 0, 0, 0, 0, 0, 13]) false)],
  (u32 3309791706), 3689,
  []⟩
theorem e55_ok : e55.OK Tryz.prog := ⟨_, rec_ok (l := []) AllOK.nil, by kernel_rfl⟩

noncomputable def e56 : Ent := ⟨123, [(u32 3309791706), (.sl 3689 0 4 (.is 4))], 3690,
  [(3689, .cells (ys [0, 0, 0, 0]) false)],
  (u32 3641820842), 3690,
  []⟩
theorem e56_ok : e56.OK Tryz.prog := ⟨_, rec_ok (l := []) AllOK.nil, by kernel_rfl⟩

noncomputable def e57 : Ent := ⟨123, [(u32 3641820842), (.sl 3686 12 16 (.of 1))], 3690,
  [(3686, .cells (ys [19, 136, 19, 136, 0, 0, 0, 1, 119, 167, 105, 221, 4, 0, 0, 16, 0, 1, 0, 12, 0, 0, 0, 0, 0, 0, 0, 13]) false)],
  (u32 2007460317), 3690,
  []⟩
theorem e57_ok : e57.OK Tryz.prog := ⟨_, rec_ok (l := []) AllOK.nil, by kernel_rfl⟩

noncomputable def e58 : Ent := ⟨123, [(u32 0), (.sl 3810 0 8 (.of 1))], 3811,
  [(3810, .cells (ys [19, 136, 19, 136, 83, 231, 216, 177, 0, 0, 0, 0, 5, 0, 0, 16, 0, 1, 0, 12, 0, 0, 0, 0, 0, 0, 0, 13]) false)],
  (u32 675355347), 3811,
  []⟩
theorem e58_ok : e58.OK Tryz.prog := ⟨_, rec_ok (l := []) AllOK.nil, by kernel_rfl⟩

noncomputable def e59 : Ent := ⟨123, [(u32 675355347), (.sl 3811 0 4 (.is 4))], 3812,
  [(3811, .cells (ys [0, 0, 0, 0]) false)],
  (u32 2070576187), 3812,
  []⟩
theorem e59_ok : e59.OK Tryz.prog := ⟨_, rec_ok (l := []) AllOK.nil, by kernel_rfl⟩

noncomputable def e60 : Ent := ⟨123, [(u32 2070576187), (.sl 3810 12 16 (.of 1))], 3812,
  [(3810, .cells (ys [19, 136, 19, 136, 83, 231, 216, 177, 0, 0, 0, 0, 5, 0, 0, 16, 0, 1, 0, 12, 0, 0, 0, 0, 0, 0, 0, 13]) false)],
  (u32 965315948), 3812,
  []⟩
theorem e60_ok : e60.OK Tryz.prog := ⟨_, rec_ok (l := []) AllOK.nil, by kernel_rfl⟩

noncomputable def e61 : Ent := ⟨123, [(u32 0), (.sl 3867 0 8 (.of 1))], 3870,
  [(3867, .cells (ys [19, 136, 19, 136, 0, 0, 0, 1, 119, 167, 105, 221, 4, 0, 0, 16, 0, 1, 0, 12, 0, 0, 0, 0, 0, 0, 0, 13]) false)],
  (u32 3309791706), 3870,
  []⟩
theorem e61_ok : e61.OK Tryz.prog := ⟨_, rec_ok (l := []) AllOK.nil, by kernel_rfl⟩

noncomputable def e62 : Ent := ⟨123, [(u32 3309791706), (.sl 3870 0 4 (.is 4))], 3871,
  [(3870, .cells (ys [0, 0, 0, 0]) false)],
  (u32 3641820842), 3871,
  []⟩
theorem e62_ok : e62.OK Tryz.prog := ⟨_, rec_ok (l := []) AllOK.nil, by kernel_rfl⟩

noncomputable def e63 : Ent := ⟨123, [(u32 3641820842), (.sl 3867 12 16 (.of 1))], 3871,
  [(3867, .cells (ys [19, 136, 19, 136, 0, 0, 0, 1, 119, 167, 105, 221, 4, 0, 0, 16, 0, 1, 0, 12, 0, 0, 0, 0, 0, 0, 0, 13]) false)],
  (u32 2007460317), 3871,
  []⟩
theorem e63_ok : e63.OK Tryz.prog := ⟨_, rec_ok (l := []) AllOK.nil, by kernel_rfl⟩

noncomputable def e64 : Ent := ⟨123, [(u32 0), (.sl 3991 0 8 (.of 1))], 3992,
  [(3991, .cells (ys [19, 136, 19, 136, 83, 231, 216, 177, 0, 0, 0, 0, 5, 0, 0, 16, 0, 1, 0, 12, 0, 0, 0, 0, 0, 0, 0, 13]) false)],
  (u32 675355347), 3992,
  []⟩
theorem e64_ok : e64.OK Tryz.prog := ⟨_, rec_ok (l := []) AllOK.nil, by kernel_rfl⟩
end Go.Proofs.YthlggkkagjfelaaGreatDoor
