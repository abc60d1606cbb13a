/- Calls of the checksum, run. -/
import Derived.Test.YthlggkkagjfelaaGreatDoorEnBase
namespace Go.Proofs.YthlggkkagjfelaaGreatDoor
open Go.Ex
noncomputable def e65 : Ent := ⟨123, [(u32 675355347), (.sl 3992 0 4 (.is 4))], 3993,
  [(3992, .cells (ys [0, 0, 0, 0]) false)],
  (u32 2070576187), 3993,
  []⟩
theorem e65_ok : e65.OK Tryz.prog := ⟨_, rec_ok (l := []) AllOK.nil, by kernel_rfl⟩

noncomputable def e66 : Ent := ⟨123, [(u32 2070576187), (.sl 3991 12 16 (.of 1))], 3993,
  [(3991, .cells (ys [19, 136, 19, 136, 83, 231, 216, 177, 0, 0, 0, 0, 5, 0, 0, 16, 0, 1, 0, 12, 0, 0, 0, 0, 0, 0, 0, 13]) false)],
  (u32 965315948), 3993,
  []⟩
theorem e66_ok : e66.OK Tryz.prog := ⟨_, rec_ok (l := []) AllOK.nil, by kernel_rfl⟩

noncomputable def e67 : Ent := ⟨123, [(u32 0), (.sl 4130 0 8 (.of 1))], 4131,
  [(4130, .cells (ys [19, 136, 19, 136, 83, 231, 216, 177, 0, 0, 0, 0, 4, 0, 0, 16, 0, 1, 0, 12, 0, 0, 0, 0, 0, 0, 0, 14]) false)],
  (u32 675355347), 4131,
  []⟩
theorem e67_ok : e67.OK Tryz.prog := ⟨_, rec_ok (l := []) AllOK.nil, by kernel_rfl⟩

noncomputable def e68 : Ent := ⟨123, [(u32 675355347), (.sl 4131 0 4 (.is 4))], 4132,
  [(4131, .cells (ys [0, 0, 0, 0]) false)],
  (u32 2070576187), 4132,
  []⟩
theorem e68_ok : e68.OK Tryz.prog := ⟨_, rec_ok (l := []) AllOK.nil, by kernel_rfl⟩

noncomputable def e69 : Ent := ⟨123, [(u32 2070576187), (.sl 4130 12 16 (.of 1))], 4132,
  [(4130, .cells (ys [19, 136, 19, 136, 83, 231, 216, 177, 0, 0, 0, 0, 4, 0, 0, 16, 0, 1, 0, 12, 0, 0, 0, 0, 0, 0, 0, 14]) false)],
  (u32 3637867366), 4132,
  []⟩
theorem e69_ok : e69.OK Tryz.prog := ⟨_, rec_ok (l := []) AllOK.nil, by kernel_rfl⟩

noncomputable def e70 : Ent := ⟨123, [(u32 0), (.sl 4219 0 8 (.of 1))], 4220,
  [(4219, .cells (ys [19, 136, 19, 136, 83, 231, 216, 177, 0, 0, 0, 0, 4, 0, 0, 16, 0, 1, 0, 12, 0, 0, 0, 0, 0, 0, 0, 14]) false)],
  (u32 675355347), 4220,
  []⟩
theorem e70_ok : e70.OK Tryz.prog := ⟨_, rec_ok (l := []) AllOK.nil, by kernel_rfl⟩

noncomputable def e71 : Ent := ⟨123, [(u32 675355347), (.sl 4220 0 4 (.is 4))], 4221,
  [(4220, .cells (ys [0, 0, 0, 0]) false)],
  (u32 2070576187), 4221,
  []⟩
theorem e71_ok : e71.OK Tryz.prog := ⟨_, rec_ok (l := []) AllOK.nil, by kernel_rfl⟩

noncomputable def e72 : Ent := ⟨123, [(u32 2070576187), (.sl 4219 12 16 (.of 1))], 4221,
  [(4219, .cells (ys [19, 136, 19, 136, 83, 231, 216, 177, 0, 0, 0, 0, 4, 0, 0, 16, 0, 1, 0, 12, 0, 0, 0, 0, 0, 0, 0, 14]) false)],
  (u32 3637867366), 4221,
  []⟩
theorem e72_ok : e72.OK Tryz.prog := ⟨_, rec_ok (l := []) AllOK.nil, by kernel_rfl⟩

noncomputable def e74 : Ent := ⟨123, [(u32 0), (.sl 4324 0 8 (.of 1))], 4327,
  [(4324, .cells (ys [19, 136, 19, 136, 83, 231, 216, 177, 57, 137, 141, 108, 5, 0, 0, 16, 0, 1, 0, 12, 0, 0, 0, 0, 0, 0, 0, 13]) false)],
  (u32 675355347), 4327,
  []⟩
theorem e74_ok : e74.OK Tryz.prog := ⟨_, rec_ok (l := []) AllOK.nil, by kernel_rfl⟩

noncomputable def e75 : Ent := ⟨123, [(u32 675355347), (.sl 4327 0 4 (.is 4))], 4328,
  [(4327, .cells (ys [0, 0, 0, 0]) false)],
  (u32 2070576187), 4328,
  []⟩
theorem e75_ok : e75.OK Tryz.prog := ⟨_, rec_ok (l := []) AllOK.nil, by kernel_rfl⟩

noncomputable def e76 : Ent := ⟨123, [(u32 2070576187), (.sl 4324 12 16 (.of 1))], 4328,
  [(4324, .cells (ys [19, 136, 19, 136, 83, 231, 216, 177, 57, 137, 141, 108, 5, 0, 0, 16, 0, 1, 0, 12, 0, 0, 0, 0, 0, 0, 0, 13]) false)],
  (u32 965315948), 4328,
  []⟩
theorem e76_ok : e76.OK Tryz.prog := ⟨_, rec_ok (l := []) AllOK.nil, by kernel_rfl⟩

noncomputable def e77 : Ent := ⟨123, [(u32 0), (.sl 4447 0 8 (.of 1))], 4450,
  [(4447, .cells (ys [19, 136, 19, 136, 83, 231, 216, 177, 57, 137, 141, 108, 5, 0, 0, 16, 0, 1, 0, 12, 0, 0, 0, 0, 0, 0, 0, 13]) false)],
  (u32 675355347), 4450,
  []⟩
theorem e77_ok : e77.OK Tryz.prog := ⟨_, rec_ok (l := []) AllOK.nil, by kernel_rfl⟩

noncomputable def e78 : Ent := ⟨123, [(u32 675355347), (.sl 4450 0 4 (.is 4))], 4451,
  [(4450, .cells (ys [0, 0, 0, 0]) false)],
  (u32 2070576187), 4451,
  []⟩
theorem e78_ok : e78.OK Tryz.prog := ⟨_, rec_ok (l := []) AllOK.nil, by kernel_rfl⟩

noncomputable def e79 : Ent := ⟨123, [(u32 2070576187), (.sl 4447 12 16 (.of 1))], 4451,
  [(4447, .cells (ys [19, 136, 19, 136, 83, 231, 216, 177, 57, 137, 141, 108, 5, 0, 0, 16, 0, 1, 0, 12, 0, 0, 0, 0, 0, 0, 0, 13]) false)],
  (u32 965315948), 4451,
  []⟩
theorem e79_ok : e79.OK Tryz.prog := ⟨_, rec_ok (l := []) AllOK.nil, by kernel_rfl⟩

noncomputable def e80 : Ent := ⟨123, [(u32 0), (.sl 4570 0 8 (.of 1))], 4573,
  [(4570, .cells (ys [19, 136, 19, 136, 83, 231, 216, 177, 216, 213, 115, 102, 4, 0, 0, 16, 0, 1, 0, 12, 0, 0, 0, 0, 0, 0, 0, 14]) false)],
  (u32 675355347), 4573,
  []⟩
theorem e80_ok : e80.OK Tryz.prog := ⟨_, rec_ok (l := []) AllOK.nil, by kernel_rfl⟩

noncomputable def e81 : Ent := ⟨123, [(u32 675355347), (.sl 4573 0 4 (.is 4))], 4574,
  [(4573, .cells (ys [0, 0, 0, 0]) false)],
  (u32 2070576187), 4574,
  []⟩
theorem e81_ok : e81.OK Tryz.prog := ⟨_, rec_ok (l := []) AllOK.nil, by kernel_rfl⟩

noncomputable def e82 : Ent := ⟨123, [(u32 2070576187), (.sl 4570 12 16 (.of 1))], 4574,
  [(4570, .cells (ys [19, 136, 19, 136, 83, 231, 216, 177, 216, 213, 115, 102, 4, 0, 0, 16, 0, 1, 0, 12, 0, 0, 0, 0, 0, 0, 0, 14]) false)],
  (u32 3637867366), 4574,
  []⟩
theorem e82_ok : e82.OK Tryz.prog := ⟨_, rec_ok (l := []) AllOK.nil, by kernel_rfl⟩

noncomputable def e83 : Ent := ⟨123, [(u32 0), (.sl 4694 0 8 (.of 1))], 4695,
  [(4694, .cells (ys [19, 136, 19, 136, 0, 0, 0, 1, 0, 0, 0, 0, 5, 0, 0, 16, 0, 1, 0, 12, 0, 0, 0, 0, 0, 0, 0, 14]) false)],
  (u32 3309791706), 4695,
  []⟩
theorem e83_ok : e83.OK Tryz.prog := ⟨_, rec_ok (l := []) AllOK.nil, by kernel_rfl⟩

noncomputable def e84 : Ent := ⟨123, [(u32 3309791706), (.sl 4695 0 4 (.is 4))], 4696,
  [(4695, .cells (ys [0, 0, 0, 0]) false)],
  (u32 3641820842), 4696,
  []⟩
theorem e84_ok : e84.OK Tryz.prog := ⟨_, rec_ok (l := []) AllOK.nil, by kernel_rfl⟩

noncomputable def e85 : Ent := ⟨123, [(u32 3641820842), (.sl 4694 12 16 (.of 1))], 4696,
  [(4694, .cells (ys [19, 136, 19, 136, 0, 0, 0, 1, 0, 0, 0, 0, 5, 0, 0, 16, 0, 1, 0, 12, 0, 0, 0, 0, 0, 0, 0, 14]) false)],
  (u32 2533070807), 4696,
  []⟩
theorem e85_ok : e85.OK Tryz.prog := ⟨_, rec_ok (l := []) AllOK.nil, by kernel_rfl⟩

noncomputable def e86 : Ent := ⟨123, [(u32 0), (.sl 4751 0 8 (.of 1))], 4754,
  [(4751, .cells (ys [19, 136, 19, 136, 83, 231, 216, 177, 216, 213, 115, 102, 4, 0, 0, 16, 0, 1, 0, 12, 0, 0, 0, 0, 0, 0, 0, 14]) false)],
  (u32 675355347), 4754,
  []⟩
theorem e86_ok : e86.OK Tryz.prog := ⟨_, rec_ok (l := []) AllOK.nil, by kernel_rfl⟩

noncomputable def e87 : Ent := ⟨123, [(u32 675355347), (.sl 4754 0 4 (.is 4))], 4755,
  [(4754, .cells (ys [0, 0, 0, 0]) false)],
  (u32 2070576187), 4755,
  []⟩
theorem e87_ok : e87.OK Tryz.prog := ⟨_, rec_ok (l := []) AllOK.nil, by kernel_rfl⟩

noncomputable def e88 : Ent := ⟨123, [(u32 2070576187), (.sl 4751 12 16 (.of 1))], 4755,
  [(4751, .cells (ys [19, 136, 19, 136, 83, 231, 216, 177, 216, 213, 115, 102, 4, 0, 0, 16, 0, 1, 0, 12, 0, 0, 0, 0, 0, 0, 0, 14]) false)],
  (u32 3637867366), 4755,
  []⟩
theorem e88_ok : e88.OK Tryz.prog := ⟨_, rec_ok (l := []) AllOK.nil, by kernel_rfl⟩

noncomputable def e89 : Ent := ⟨123, [(u32 0), (.sl 4875 0 8 (.of 1))], 4876,
  [(4875, .cells (ys [19, 136, 19, 136, 0, 0, 0, 1, 0, 0, 0, 0, 5, 0, 0, 16, 0, 1, 0, 12, 0, 0, 0, 0, 0, 0, 0, 14]) false)],
  (u32 3309791706), 4876,
  []⟩
theorem e89_ok : e89.OK Tryz.prog := ⟨_, rec_ok (l := []) AllOK.nil, by kernel_rfl⟩

noncomputable def e90 : Ent := ⟨123, [(u32 3309791706), (.sl 4876 0 4 (.is 4))], 4877,
  [(4876, .cells (ys [0, 0, 0, 0]) false)],
  (u32 3641820842), 4877,
  []⟩
theorem e90_ok : e90.OK Tryz.prog := ⟨_, rec_ok (l := []) AllOK.nil, by kernel_rfl⟩

noncomputable def e91 : Ent := ⟨123, [(u32 3641820842), (.sl 4875 12 16 (.of 1))], 4877,
  [(4875, .cells (ys [19, 136, 19, 136, 0, 0, 0, 1, 0, 0, 0, 0, 5, 0, 0, 16, 0, 1, 0, 12, 0, 0, 0, 0, 0, 0, 0, 14]) false)],
  (u32 2533070807), 4877,
  []⟩
theorem e91_ok : e91.OK Tryz.prog := ⟨_, rec_ok (l := []) AllOK.nil, by kernel_rfl⟩

noncomputable def e93 : Ent := ⟨123, [(u32 0), (.sl 5026 0 8 (.of 1))], 5029,
  [(5026, .cells (ys [19, 136, 19, 136, 0, 0, 0, 1, 150, 251, 151, 215, 5, 0, 0, 16, 0, 1, 0, 12, 0, 0, 0, 0, 0, 0, 0, 14]) false)],
  (u32 3309791706), 5029,
  []⟩
theorem e93_ok : e93.OK Tryz.prog := ⟨_, rec_ok (l := []) AllOK.nil, by kernel_rfl⟩

noncomputable def e94 : Ent := ⟨123, [(u32 3309791706), (.sl 5029 0 4 (.is 4))], 5030,
  [(5029, .cells (ys [0, 0, 0, 0]) false)],
  (u32 3641820842), 5030,
  []⟩
theorem e94_ok : e94.OK Tryz.prog := ⟨_, rec_ok (l := []) AllOK.nil, by kernel_rfl⟩

noncomputable def e95 : Ent := ⟨123, [(u32 3641820842), (.sl 5026 12 16 (.of 1))], 5030,
  [(5026, .cells (ys [19, 136, 19, 136, 0, 0, 0, 1, 150, 251, 151, 215, 5, 0, 0, 16, 0, 1, 0, 12, 0, 0, 0, 0, 0, 0, 0, 14]) false)],
  (u32 2533070807), 5030,
  []⟩
theorem e95_ok : e95.OK Tryz.prog := ⟨_, rec_ok (l := []) AllOK.nil, by kernel_rfl⟩

noncomputable def e96 : Ent := ⟨123, [(u32 0), (.sl 5149 0 8 (.of 1))], 5152,
  [(5149, .cells (ys [19, 136, 19, 136, 0, 0, 0, 1, 150, 251, 151, 215, 5, 0, 0, 16, 0, 1, 0, 12, 0, 0, 0, 0, 0, 0, 0, 14]) false)],
  (u32 3309791706), 5152,
  []⟩
theorem e96_ok : e96.OK Tryz.prog := ⟨_, rec_ok (l := []) AllOK.nil, by kernel_rfl⟩

noncomputable def e97 : Ent := ⟨123, [(u32 3309791706), (.sl 5152 0 4 (.is 4))], 5153,
  [(5152, .cells (ys [0, 0, 0, 0]) false)],
  (u32 3641820842), 5153,
  []⟩
theorem e97_ok : e97.OK Tryz.prog := ⟨_, rec_ok (l := []) AllOK.nil, by kernel_rfl⟩

noncomputable def e98 : Ent := ⟨123, [(u32 3641820842), (.sl 5149 12 16 (.of 1))], 5153,
  [(5149, .cells (ys [19, 136, 19, 136, 0, 0, 0, 1, 150, 251, 151, 215, 5, 0, 0, 16, 0, 1, 0, 12, 0, 0, 0, 0, 0, 0, 0, 14]) false)],
  (u32 2533070807), 5153,
  []⟩
theorem e98_ok : e98.OK Tryz.prog := ⟨_, rec_ok (l := []) AllOK.nil, by kernel_rfl⟩

noncomputable def e104 : Ent := ⟨123, [(u32 0), (.sl 5892 0 8 (.of 1))], 5893,
  [(5892, .cells (ys [19, 136, 19, 136, 83, 231, 216, 177, 0, 0, 0, 0, 0, 3, 0, 21, 0, 0, 0, 10, 0, 0, 0, 0, 0, 0, 0, 0, 104, 101, 108, 108, 111, 0, 0, 0]) false)],
  (u32 675355347), 5893,
  []⟩
theorem e104_ok : e104.OK Tryz.prog := ⟨_, rec_ok (l := []) AllOK.nil, by kernel_rfl⟩

noncomputable def e105 : Ent := ⟨123, [(u32 675355347), (.sl 5893 0 4 (.is 4))], 5894,
  [(5893, .cells (ys [0, 0, 0, 0]) false)],
  (u32 2070576187), 5894,
  []⟩
theorem e105_ok : e105.OK Tryz.prog := ⟨_, rec_ok (l := []) AllOK.nil, by kernel_rfl⟩

noncomputable def e106 : Ent := ⟨123, [(u32 2070576187), (.sl 5892 12 24 (.of 1))], 5894,
  [(5892, .cells (ys [19, 136, 19, 136, 83, 231, 216, 177, 0, 0, 0, 0, 0, 3, 0, 21, 0, 0, 0, 10, 0, 0, 0, 0, 0, 0, 0, 0, 104, 101, 108, 108, 111, 0, 0, 0]) false)],
  (u32 2042036485), 5894,
  []⟩
theorem e106_ok : e106.OK Tryz.prog := ⟨_, rec_ok (l := []) AllOK.nil, by kernel_rfl⟩

noncomputable def e107 : Ent := ⟨123, [(u32 0), (.sl 5925 0 8 (.of 1))], 5928,
  [(5925, .cells (ys [19, 136, 19, 136, 83, 231, 216, 177, 121, 183, 1, 5, 0, 3, 0, 21, 0, 0, 0, 10, 0, 0, 0, 0, 0, 0, 0, 0, 104, 101, 108, 108, 111, 0, 0, 0]) false)],
  (u32 675355347), 5928,
  []⟩
theorem e107_ok : e107.OK Tryz.prog := ⟨_, rec_ok (l := []) AllOK.nil, by kernel_rfl⟩

noncomputable def e108 : Ent := ⟨123, [(u32 675355347), (.sl 5928 0 4 (.is 4))], 5929,
  [(5928, .cells (ys [0, 0, 0, 0]) false)],
  (u32 2070576187), 5929,
  []⟩
theorem e108_ok : e108.OK Tryz.prog := ⟨_, rec_ok (l := []) AllOK.nil, by kernel_rfl⟩

noncomputable def e109 : Ent := ⟨123, [(u32 2070576187), (.sl 5925 12 24 (.of 1))], 5929,
  [(5925, .cells (ys [19, 136, 19, 136, 83, 231, 216, 177, 121, 183, 1, 5, 0, 3, 0, 21, 0, 0, 0, 10, 0, 0, 0, 0, 0, 0, 0, 0, 104, 101, 108, 108, 111, 0, 0, 0]) false)],
  (u32 2042036485), 5929,
  []⟩
theorem e109_ok : e109.OK Tryz.prog := ⟨_, rec_ok (l := []) AllOK.nil, by kernel_rfl⟩
end Go.Proofs.YthlggkkagjfelaaGreatDoor
