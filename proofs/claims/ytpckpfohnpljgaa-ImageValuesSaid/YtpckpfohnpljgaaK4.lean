/- Lemmas: an abstract machine over the loaded program, proved sound against the model once; what the program's functions compute. -/
import Derived.Test.YtpckpfohnpljgaaK3
/- The functions of the program, as the abstract machine takes them: printed by gen2.py. -/
namespace Go.AM
set_option linter.unusedVariables false
def F_elder_Write : F := ⟨2, [.inl 4, .inl 5],
  (.seq (.reg [.zz 0] [⟨some 2, none, .bx (.k 0), [], 0⟩,
    ⟨some 4, none, .mv (.c (.s ⟨#[]⟩)), [], 0⟩,
    ⟨some 5, none, .mv (.c (.i .i64 0)), [], 0⟩] false [1, 2] [2])
  (.seq (.seq (.reg [] [⟨some 8, none, .ld true 5 .cp (.t 2), [], 2⟩,
    ⟨some 9, none, .call n_image_Image_Check [.k 8], [], 0⟩,
    ⟨some 6, none, .mv (.k 9), [], 0⟩] false [1, 2, 6] [2])
  (.seq (.reg [] [⟨some 10, none, .mv (.t 6), [], 0⟩,
    ⟨some 11, none, .bin .neq (.k 10) (.c (.i .i64 0)), [], 0⟩] false [1, 2, 6, 11] [2])
  (.cond 11 (.seq (.reg [] [⟨some 12, none, .mv (.k 6), [], 0⟩,
    ⟨some 4, none, .mv (.c (.s ⟨#[]⟩)), [], 0⟩,
    ⟨some 5, none, .mv (.k 12), [], 0⟩] false [4, 5] [])
  .ret)
  .skip)))
  (.seq (.reg [] [⟨some 13, none, .mv (.t 1), [], 0⟩,
    ⟨some 14, none, .cv (.int .u8) (.k 13), [], 0⟩,
    ⟨some 15, none, .fa 0 (.t 2), [], 0⟩,
    ⟨some 16, none, .ld false 1 .cp (.k 15), [], 0⟩,
    ⟨some 17, none, .cv (.int .u8) (.k 16), [], 0⟩,
    ⟨some 18, none, .bs 1 2 (.i .u8 0) [(0, .k 14), (1, .k 17)], [], 1⟩,
    ⟨some 19, none, .cv .str (.k 18), [], 0⟩,
    ⟨some 20, none, .bin .add (.c (.s ⟨#[67, 82, 89, 79]⟩)) (.k 19), [], 0⟩,
    ⟨some 7, none, .mv (.k 20), [], 0⟩] false [1, 2, 7] [2])
  (.seq (.seq (.reg [] [⟨some 21, none, .mv (.k 1), [], 0⟩] false [2, 7, 21] [2])
  (.blk 0 (.seq (.reg [] [⟨some 23, none, .bin .eql (.t 21) (.c (.i .i64 1)), [], 0⟩,
    ⟨some 22, none, .mv (.k 23), [], 0⟩] false [2, 7, 21, 22] [2])
  (.cond 22 (.seq (.reg [] [⟨some 24, none, .mv (.k 7), [], 0⟩,
    ⟨some 25, none, .ld true 5 .tk (.k 2), [], 2⟩,
    ⟨some 26, none, .call n_elder_one [.k 25], [], 0⟩,
    ⟨some 27, none, .cv .str (.k 26), [], 0⟩,
    ⟨some 28, none, .bin .add (.k 24) (.k 27), [], 0⟩,
    ⟨some 4, none, .mv (.k 28), [], 0⟩,
    ⟨some 5, none, .mv (.c (.i .i64 0)), [], 0⟩] false [4, 5] [])
  .ret)
  (.seq (.reg [] [⟨some 30, none, .bin .eql (.t 21) (.c (.i .i64 2)), [], 0⟩,
    ⟨some 29, none, .mv (.k 30), [], 0⟩] false [2, 7, 21, 29] [2])
  (.cond 29 (.seq (.reg [] [⟨some 31, none, .call n_crc_Make [], [], 0⟩,
    ⟨some 32, none, .mv (.k 7), [0], 0⟩,
    ⟨some 33, none, .ld true 5 .cp (.k 2), [0, 1], 2⟩,
    ⟨some 34, none, .call n_elder_two [.k 33], [1], 0⟩,
    ⟨some 35, none, .cv .str (.k 34), [1], 0⟩,
    ⟨some 36, none, .bin .add (.k 32) (.k 35), [], 0⟩,
    ⟨some 37, none, .call n_crc_Table_Seal [.k 31, .k 36], [], 0⟩,
    ⟨some 4, none, .mv (.k 37), [], 0⟩,
    ⟨some 5, none, .mv (.c (.i .i64 0)), [], 0⟩] true [4, 5] [])
  .ret)
  (.seq (.reg [] [⟨some 39, none, .bin .eql (.t 21) (.c (.i .i64 3)), [], 0⟩,
    ⟨some 38, none, .mv (.k 39), [], 0⟩] false [2, 7, 21, 38] [2])
  (.cond 38 (.seq (.reg [] [⟨some 40, none, .call n_crc_Make [], [], 0⟩,
    ⟨some 41, none, .mv (.k 7), [0], 0⟩,
    ⟨some 42, none, .ld true 5 .cp (.k 2), [0, 1], 2⟩,
    ⟨some 43, none, .call n_elder_three [.k 42], [1], 0⟩,
    ⟨some 44, none, .cv .str (.k 43), [1], 0⟩,
    ⟨some 45, none, .bin .add (.k 41) (.k 44), [], 0⟩,
    ⟨some 46, none, .call n_crc_Table_Seal [.k 40, .k 45], [], 0⟩,
    ⟨some 4, none, .mv (.k 46), [], 0⟩,
    ⟨some 5, none, .mv (.c (.i .i64 0)), [], 0⟩] true [4, 5] [])
  .ret)
  (.seq (.reg [] [⟨some 48, none, .bin .eql (.k 21) (.c (.i .i64 4)), [], 0⟩,
    ⟨some 47, none, .mv (.k 48), [], 0⟩] false [2, 47] [2])
  (.cond 47 (.seq (.reg [] [⟨some 49, none, .ld true 5 .tk (.k 2), [], 2⟩,
    ⟨some 50, none, .call n_file_Encode [.k 49], [], 0⟩,
    ⟨some 51, none, .ex false 0 50, [], 0⟩,
    ⟨some 52, none, .ex false 1 50, [], 0⟩,
    ⟨some 4, none, .mv (.k 51), [], 0⟩,
    ⟨some 5, none, .mv (.k 52), [], 0⟩] false [4, 5] [])
  .ret)
  .skip))))))))))
  (.seq (.reg [] [⟨some 4, none, .mv (.c (.s ⟨#[]⟩)), [], 0⟩,
    ⟨some 5, none, .mv (.c (.i .i64 8)), [], 0⟩] false [4, 5] [])
  .ret)))))⟩

def F_strings_HasPrefix : F := ⟨2, [.inl 4],
  (.seq (.reg [] [⟨some 4, none, .mv (.c (.b false)), [], 0⟩] false [0, 1] [])
  (.seq (.reg [] [⟨some 5, none, .mv (.k 0), [], 0⟩,
    ⟨some 6, none, .mv (.k 1), [], 0⟩,
    ⟨some 7, none, .call n_internal_stringslite_HasPrefix [.k 5, .k 6], [], 0⟩,
    ⟨some 4, none, .mv (.k 7), [], 0⟩] false [4] [])
  .ret))⟩

def F_c_ref20_word : F := ⟨1, [.inl 2],
  (.seq (.reg [] [⟨some 2, none, .mv (.c (.s ⟨#[]⟩)), [], 0⟩] false [0] [])
  (.seq (.reg [] [⟨some 3, none, .mv (.k 0), [], 0⟩,
    ⟨some 4, none, .cv (.int .u64) (.k 3), [], 0⟩,
    ⟨some 5, none, .call n_c_ref01_Fixed [.k 4, .c (.i .i64 4)], [], 0⟩,
    ⟨some 2, none, .mv (.k 5), [], 0⟩] false [2] [])
  .ret))⟩

def F_c_ref20_entry : F := ⟨3, [.inl 6],
  (.seq (.reg [] [⟨some 6, none, .mv (.c (.s ⟨#[]⟩)), [], 0⟩] false [0, 1, 2] [])
  (.seq (.reg [] [⟨some 7, none, .mv (.k 0), [], 0⟩,
    ⟨some 8, none, .cv (.int .u8) (.k 7), [], 0⟩,
    ⟨some 9, none, .bs 1 1 (.i .u8 0) [(0, .k 8)], [], 1⟩,
    ⟨some 10, none, .cv .str (.k 9), [], 0⟩,
    ⟨some 11, none, .mv (.k 1), [0, 1, 2, 3], 0⟩,
    ⟨some 12, none, .call n_c_ref20_word [.k 11], [0, 1, 2, 3], 0⟩,
    ⟨some 13, none, .bin .add (.k 10) (.k 12), [], 0⟩,
    ⟨some 14, none, .mv (.t 2), [0, 1, 2, 3, 4, 5, 6], 0⟩,
    ⟨some 15, none, .len true (.k 14), [0, 1, 2, 3, 4, 5, 6], 0⟩,
    ⟨some 16, none, .call n_c_ref20_word [.k 15], [0, 1, 2, 3, 6], 0⟩,
    ⟨some 17, none, .bin .add (.k 13) (.k 16), [], 0⟩,
    ⟨some 18, none, .mv (.t 2), [0, 1, 2, 3, 4, 5, 6, 7, 8, 9, 10], 0⟩,
    ⟨some 19, none, .call n_c_ref02_Sum [.k 18], [0, 1, 2, 3, 6, 10], 0⟩,
    ⟨some 20, none, .cv (.int .i64) (.k 19), [0, 1, 2, 3, 6, 10], 0⟩,
    ⟨some 21, none, .call n_c_ref20_word [.k 20], [0, 1, 2, 3, 6, 10], 0⟩,
    ⟨some 22, none, .bin .add (.k 17) (.k 21), [], 0⟩,
    ⟨some 6, none, .mv (.k 22), [], 0⟩] true [6] [])
  .ret))⟩

def F_c_ref02_Sum : F := ⟨1, [.inl 2],
  (.seq (.reg [] [⟨some 2, none, .mv (.c (.i .u32 0)), [], 0⟩] false [0] [])
  (.seq (.reg [] [⟨some 13, none, .mv (.k 0), [], 0⟩,
    ⟨some 14, none, .call n_c_ref02_Bits [.k 13], [], 0⟩,
    ⟨some 3, none, .mv (.k 14), [], 0⟩] false [3] [3])
  (.seq (.reg [.thaw 3] [⟨some 15, none, .mv (.t 3), [], 0⟩,
    ⟨some 16, none, .len false (.k 15), [], 0⟩,
    ⟨some 4, none, .mv (.k 16), [], 0⟩] false [3, 4] [3])
  (.seq (.seq (.reg [] [⟨some 5, none, .mv (.c (.i .i64 0)), [], 0⟩] false [3, 4, 5] [3])
  (.blk 0 (.loop (.seq (.seq (.reg [] [⟨some 17, none, .mv (.t 5), [], 0⟩,
    ⟨some 18, none, .bin .lss (.k 17) (.c (.i .i64 32)), [], 0⟩] false [3, 4, 5, 18] [3])
  (.cond 18 .skip
  (.exit 0)))
  (.seq (.blk 1 (.reg [.unth 3] [⟨some 21, none, .mv (.k 3), [], 0⟩,
    ⟨some 22, none, .bs 1 1 (.i .i64 0) [(0, .c (.i .i64 0))], [], 0⟩,
    ⟨some 23, none, .app 1 8 (.k 21) (.k 22), [], 0⟩,
    ⟨some 3, none, .mv (.k 23), [], 0⟩] false [3, 4, 5] [3]))
  (.reg [] [⟨some 19, none, .mv (.k 5), [], 0⟩,
    ⟨some 20, none, .bin .add (.k 19) (.c (.i .i64 1)), [], 0⟩,
    ⟨some 5, none, .mv (.k 20), [], 0⟩] false [3, 4, 5] [3]))))))
  (.seq (.seq (.reg [] [⟨some 6, none, .mv (.c (.i .i64 0)), [], 0⟩] false [3, 4, 6] [3])
  (.blk 2 (.loop (.seq (.seq (.reg [] [⟨some 24, none, .mv (.t 6), [], 0⟩,
    ⟨some 25, none, .bin .lss (.k 24) (.c (.i .i64 32)), [], 0⟩] false [3, 4, 6, 25] [3])
  (.cond 25 .skip
  (.exit 2)))
  (.seq (.blk 3 (.reg [.thaw 3] [⟨some 28, none, .mv (.t 3), [], 0⟩,
    ⟨some 29, none, .mv (.t 6), [], 0⟩,
    ⟨some 30, none, .mv (.t 3), [], 0⟩,
    ⟨some 31, none, .mv (.t 6), [], 0⟩,
    ⟨some 32, none, .ia 1 none (.k 30) (.k 31), [], 0⟩,
    ⟨some 33, none, .ld false 1 .cp (.k 32), [], 0⟩,
    ⟨some 34, none, .bin .sub (.c (.i .i64 1)) (.k 33), [], 0⟩,
    ⟨some 35, none, .ia 1 none (.k 28) (.k 29), [], 0⟩,
    ⟨none, none, .st 1 (.k 35) (.k 34), [], 0⟩] false [3, 4, 6] [3]))
  (.reg [] [⟨some 26, none, .mv (.k 6), [], 0⟩,
    ⟨some 27, none, .bin .add (.k 26) (.c (.i .i64 1)), [], 0⟩,
    ⟨some 6, none, .mv (.k 27), [], 0⟩] false [3, 4, 6] [3]))))))
  (.seq (.reg [] [⟨some 36, none, .bs 1 15 (.i .i64 0) [(0, .c (.i .i64 32)), (1, .c (.i .i64 26)), (2, .c (.i .i64 23)), (3, .c (.i .i64 22)), (4, .c (.i .i64 16)), (5, .c (.i .i64 12)), (6, .c (.i .i64 11)), (7, .c (.i .i64 10)), (8, .c (.i .i64 8)), (9, .c (.i .i64 7)), (10, .c (.i .i64 5)), (11, .c (.i .i64 4)), (12, .c (.i .i64 2)), (13, .c (.i .i64 1)), (14, .c (.i .i64 0))], [], 1⟩,
    ⟨some 7, none, .mv (.k 36), [], 0⟩] false [3, 4, 7] [3])
  (.seq (.seq (.reg [] [⟨some 8, none, .mv (.c (.i .i64 0)), [], 0⟩] false [3, 4, 7, 8] [3])
  (.blk 4 (.loop (.seq (.seq (.reg [] [⟨some 37, none, .mv (.t 8), [], 0⟩,
    ⟨some 38, none, .mv (.t 4), [], 0⟩,
    ⟨some 39, none, .bin .lss (.k 37) (.k 38), [], 0⟩] false [3, 4, 7, 8, 39] [3])
  (.cond 39 .skip
  (.exit 4)))
  (.seq (.blk 5 (.seq (.seq (.reg [.thaw 3] [⟨some 42, none, .mv (.t 3), [], 0⟩,
    ⟨some 43, none, .mv (.t 8), [], 0⟩,
    ⟨some 44, none, .ia 1 none (.k 42) (.k 43), [], 0⟩,
    ⟨some 45, none, .ld false 1 .cp (.k 44), [], 0⟩,
    ⟨some 46, none, .bin .eql (.k 45) (.c (.i .i64 0)), [], 0⟩] false [3, 4, 7, 8, 46] [3])
  (.cond 46 (.exit 5)
  .skip))
  (.seq (.reg [] [⟨some 47, none, .mv (.t 7), [], 0⟩,
    ⟨some 48, none, .len false (.t 47), [], 0⟩,
    ⟨some 49, none, .mv (.c (.i .i64 0)), [], 0⟩] false [3, 4, 7, 8, 47, 48, 49] [3])
  (.blk 6 (.loop (.seq (.reg [] [⟨some 50, none, .bin .lss (.t 49) (.t 48), [], 0⟩] false [3, 4, 7, 8, 47, 48, 49, 50] [3])
  (.seq (.cond 50 .skip
  (.exit 6))
  (.seq (.blk 7 (.seq (.reg [] [⟨some 51, none, .ia 1 none (.t 47) (.t 49), [], 0⟩,
    ⟨some 52, none, .ld false 1 .cp (.k 51), [], 0⟩,
    ⟨some 10, none, .mv (.k 52), [], 0⟩] false [3, 4, 7, 8, 10, 47, 48, 49] [3])
  (.reg [.thaw 3] [⟨some 53, none, .mv (.t 3), [], 0⟩,
    ⟨some 54, none, .mv (.t 8), [], 0⟩,
    ⟨some 55, none, .bin .add (.k 54) (.c (.i .i64 32)), [], 0⟩,
    ⟨some 56, none, .mv (.t 10), [], 0⟩,
    ⟨some 57, none, .bin .sub (.k 55) (.k 56), [], 0⟩,
    ⟨some 58, none, .mv (.t 3), [], 0⟩,
    ⟨some 59, none, .mv (.t 8), [], 0⟩,
    ⟨some 60, none, .bin .add (.k 59) (.c (.i .i64 32)), [], 0⟩,
    ⟨some 61, none, .mv (.k 10), [], 0⟩,
    ⟨some 62, none, .bin .sub (.k 60) (.k 61), [], 0⟩,
    ⟨some 63, none, .ia 1 none (.k 58) (.k 62), [], 0⟩,
    ⟨some 64, none, .ld false 1 .cp (.k 63), [], 0⟩,
    ⟨some 65, none, .bin .sub (.c (.i .i64 1)) (.k 64), [], 0⟩,
    ⟨some 66, none, .ia 1 none (.k 53) (.k 57), [], 0⟩,
    ⟨none, none, .st 1 (.k 66) (.k 65), [], 0⟩] false [3, 4, 7, 8, 47, 48, 49] [3])))
  (.reg [] [⟨some 67, none, .bin .add (.k 49) (.c (.i .i64 1)), [], 0⟩,
    ⟨some 49, none, .mv (.k 67), [], 0⟩] false [3, 4, 7, 8, 47, 48, 49] [3])))))))))
  (.reg [] [⟨some 40, none, .mv (.k 8), [], 0⟩,
    ⟨some 41, none, .bin .add (.k 40) (.c (.i .i64 1)), [], 0⟩,
    ⟨some 8, none, .mv (.k 41), [], 0⟩] false [3, 4, 7, 8] [3]))))))
  (.seq (.reg [] [⟨some 11, none, .mv (.c (.i .u32 0)), [], 0⟩] false [3, 4, 11] [3])
  (.seq (.seq (.reg [] [⟨some 12, none, .mv (.c (.i .i64 31)), [], 0⟩] false [3, 4, 11, 12] [3])
  (.blk 8 (.loop (.seq (.seq (.reg [] [⟨some 68, none, .mv (.t 12), [], 0⟩,
    ⟨some 69, none, .bin .geq (.k 68) (.c (.i .i64 0)), [], 0⟩] false [3, 4, 11, 12, 69] [3])
  (.cond 69 .skip
  (.exit 8)))
  (.seq (.blk 9 (.reg [.thaw 3] [⟨some 72, none, .mv (.k 11), [], 0⟩,
    ⟨some 73, none, .bin .mul (.k 72) (.c (.i .u32 2)), [], 0⟩,
    ⟨some 74, none, .mv (.t 3), [], 0⟩,
    ⟨some 75, none, .mv (.t 4), [], 0⟩,
    ⟨some 76, none, .mv (.t 12), [], 0⟩,
    ⟨some 77, none, .bin .add (.k 75) (.k 76), [], 0⟩,
    ⟨some 78, none, .ia 1 none (.k 74) (.k 77), [], 0⟩,
    ⟨some 79, none, .ld false 1 .cp (.k 78), [], 0⟩,
    ⟨some 80, none, .bin .sub (.c (.i .i64 1)) (.k 79), [], 0⟩,
    ⟨some 81, none, .cv (.int .u32) (.k 80), [], 0⟩,
    ⟨some 82, none, .bin .add (.k 73) (.k 81), [], 0⟩,
    ⟨some 11, none, .mv (.k 82), [], 0⟩] false [3, 4, 11, 12] [3]))
  (.reg [] [⟨some 70, none, .mv (.k 12), [], 0⟩,
    ⟨some 71, none, .bin .sub (.k 70) (.c (.i .i64 1)), [], 0⟩,
    ⟨some 12, none, .mv (.k 71), [], 0⟩] false [3, 4, 11, 12] [3]))))))
  (.seq (.reg [] [⟨some 83, none, .mv (.k 11), [], 0⟩,
    ⟨some 2, none, .mv (.k 83), [], 0⟩] false [2] [])
  .ret))))))))))⟩

def F_c_ref20_Decode : F := ⟨1, [.inr (2, true, 5), .inl 3],
  (.seq (.reg [] [⟨some 2, none, .al ([.i .i64 0, .i .i64 0, .i .u64 0, .l .o 1 [], .l .o 1 []]), [], 0⟩,
    ⟨some 3, none, .mv (.c (.i .i64 0)), [], 0⟩] false [0, 2] [2])
  (.seq (.reg [] [⟨some 14, none, .bd ([.i .i64 0, .i .i64 0, .i .u64 0, .l .o 1 [], .l .o 1 []]) [], [], 0⟩,
    ⟨some 4, none, .al ([.i .i64 0, .i .i64 0, .i .u64 0, .l .o 1 [], .l .o 1 []]), [], 0⟩,
    ⟨none, none, .st 5 (.t 4) (.k 14), [], 0⟩] false [0, 2, 4] [2, 4])
  (.seq (.blk 0 (.seq (.reg [] [⟨some 16, none, .mv (.t 0), [], 0⟩,
    ⟨some 17, none, .len true (.k 16), [], 0⟩,
    ⟨some 18, none, .bin .lss (.k 17) (.c (.i .i64 4)), [], 0⟩,
    ⟨some 19, none, .mv (.k 18), [], 0⟩,
    ⟨some 20, some (19, false), .mv (.t 0), [], 0⟩,
    ⟨some 21, some (19, false), .ss (.k 20) none (some (.c (.i .i64 4))), [], 0⟩,
    ⟨some 22, some (19, false), .bin .neq (.k 21) (.c (.s ⟨#[67, 82, 89, 79]⟩)), [], 0⟩,
    ⟨some 23, none, .pick (.k 19) (.c (.b true)) (.k 22), [], 0⟩,
    ⟨some 15, none, .mv (.k 23), [], 0⟩] false [0, 2, 4, 15] [2, 4])
  (.cond 15 (.seq (.reg [] [⟨some 24, none, .ld true 5 .tk (.k 4), [], 0⟩,
    ⟨none, none, .st 5 (.t 2) (.k 24), [], 0⟩,
    ⟨some 3, none, .mv (.c (.i .i64 10)), [], 0⟩] false [2, 3] [2])
  .ret)
  (.seq (.reg [] [⟨some 26, none, .mv (.t 0), [], 0⟩,
    ⟨some 27, none, .len true (.k 26), [], 0⟩,
    ⟨some 28, none, .bin .gtr (.k 27) (.c (.i .i64 65536)), [], 0⟩,
    ⟨some 25, none, .mv (.k 28), [], 0⟩] false [0, 2, 4, 25] [2, 4])
  (.cond 25 (.seq (.reg [] [⟨some 29, none, .ld true 5 .tk (.k 4), [], 0⟩,
    ⟨none, none, .st 5 (.t 2) (.k 29), [], 0⟩,
    ⟨some 3, none, .mv (.c (.i .i64 3)), [], 0⟩] false [2, 3] [2])
  .ret)
  (.seq (.reg [] [⟨some 31, none, .mv (.t 0), [], 0⟩,
    ⟨some 32, none, .len true (.k 31), [], 0⟩,
    ⟨some 33, none, .bin .eql (.k 32) (.c (.i .i64 4)), [], 0⟩,
    ⟨some 30, none, .mv (.k 33), [], 0⟩] false [0, 2, 4, 30] [2, 4])
  (.cond 30 (.seq (.reg [] [⟨some 34, none, .ld true 5 .tk (.k 4), [], 0⟩,
    ⟨none, none, .st 5 (.t 2) (.k 34), [], 0⟩,
    ⟨some 3, none, .mv (.c (.i .i64 1)), [], 0⟩] false [2, 3] [2])
  .ret)
  (.seq (.reg [] [⟨some 36, none, .mv (.t 0), [], 0⟩,
    ⟨some 37, none, .ixs (.k 36) (.c (.i .i64 4)), [], 0⟩,
    ⟨some 38, none, .bin .neq (.k 37) (.c (.i .u8 4)), [], 0⟩,
    ⟨some 35, none, .mv (.k 38), [], 0⟩] false [0, 2, 4, 35] [2, 4])
  (.cond 35 (.seq (.reg [] [⟨some 39, none, .ld true 5 .tk (.k 4), [], 0⟩,
    ⟨none, none, .st 5 (.t 2) (.k 39), [], 0⟩,
    ⟨some 3, none, .mv (.c (.i .i64 8)), [], 0⟩] false [2, 3] [2])
  .ret)
  (.seq (.reg [] [⟨some 41, none, .mv (.t 0), [], 0⟩,
    ⟨some 42, none, .len true (.k 41), [], 0⟩,
    ⟨some 43, none, .bin .lss (.k 42) (.c (.i .i64 10)), [], 0⟩,
    ⟨some 44, none, .mv (.k 43), [], 0⟩,
    ⟨some 45, some (44, false), .mv (.t 0), [], 0⟩,
    ⟨some 46, some (44, false), .ss (.k 45) (some (.c (.i .i64 6))) (some (.c (.i .i64 10))), [], 0⟩,
    ⟨some 47, some (44, false), .call n_c_ref20_number [.k 46], [], 0⟩,
    ⟨some 48, some (44, false), .mv (.t 0), [], 0⟩,
    ⟨some 49, some (44, false), .len true (.k 48), [], 0⟩,
    ⟨some 50, some (44, false), .bin .gtr (.k 47) (.k 49), [], 0⟩,
    ⟨some 51, none, .pick (.k 44) (.c (.b true)) (.k 50), [], 0⟩,
    ⟨some 40, none, .mv (.k 51), [], 0⟩] false [0, 2, 4, 40] [2, 4])
  (.cond 40 (.seq (.reg [] [⟨some 52, none, .ld true 5 .tk (.k 4), [], 0⟩,
    ⟨none, none, .st 5 (.t 2) (.k 52), [], 0⟩,
    ⟨some 3, none, .mv (.c (.i .i64 1)), [], 0⟩] false [2, 3] [2])
  .ret)
  (.seq (.reg [] [⟨some 54, none, .mv (.t 0), [], 0⟩,
    ⟨some 55, none, .ss (.k 54) (some (.c (.i .i64 6))) (some (.c (.i .i64 10))), [], 0⟩,
    ⟨some 56, none, .call n_c_ref20_number [.k 55], [], 0⟩,
    ⟨some 57, none, .mv (.t 0), [], 0⟩,
    ⟨some 58, none, .len true (.k 57), [], 0⟩,
    ⟨some 59, none, .bin .lss (.k 56) (.k 58), [], 0⟩,
    ⟨some 53, none, .mv (.k 59), [], 0⟩] false [0, 2, 4, 53] [2, 4])
  (.cond 53 (.seq (.reg [] [⟨some 60, none, .ld true 5 .tk (.k 4), [], 0⟩,
    ⟨none, none, .st 5 (.t 2) (.k 60), [], 0⟩,
    ⟨some 3, none, .mv (.c (.i .i64 2)), [], 0⟩] false [2, 3] [2])
  .ret)
  .skip)))))))))))))
  (.seq (.reg [] [⟨some 61, none, .mv (.t 0), [], 0⟩,
    ⟨some 62, none, .mv (.t 0), [], 0⟩,
    ⟨some 63, none, .len true (.k 62), [], 0⟩,
    ⟨some 64, none, .bin .sub (.k 63) (.c (.i .i64 4)), [], 0⟩,
    ⟨some 65, none, .ss (.k 61) none (some (.k 64)), [], 0⟩,
    ⟨some 5, none, .mv (.k 65), [], 0⟩] false [0, 2, 4, 5] [2, 4])
  (.seq (.seq (.reg [] [⟨some 66, none, .mv (.t 0), [], 0⟩,
    ⟨some 67, none, .mv (.t 0), [], 0⟩,
    ⟨some 68, none, .len true (.k 67), [], 0⟩,
    ⟨some 69, none, .bin .sub (.k 68) (.c (.i .i64 4)), [], 0⟩,
    ⟨some 70, none, .ss (.k 66) (some (.k 69)) none, [], 0⟩,
    ⟨some 71, none, .call n_c_ref20_number [.k 70], [], 0⟩,
    ⟨some 72, none, .mv (.t 5), [], 0⟩,
    ⟨some 73, none, .call n_c_ref02_Sum [.k 72], [], 0⟩,
    ⟨some 74, none, .cv (.int .i64) (.k 73), [], 0⟩,
    ⟨some 75, none, .bin .neq (.k 71) (.k 74), [], 0⟩] false [0, 2, 4, 5, 75] [2, 4])
  (.cond 75 (.seq (.reg [] [⟨some 76, none, .ld true 5 .tk (.k 4), [], 0⟩,
    ⟨none, none, .st 5 (.t 2) (.k 76), [], 0⟩,
    ⟨some 3, none, .mv (.c (.i .i64 7)), [], 0⟩] false [2, 3] [2])
  .ret)
  .skip))
  (.seq (.seq (.reg [] [⟨some 77, none, .mv (.t 5), [], 0⟩,
    ⟨some 78, none, .len true (.k 77), [], 0⟩,
    ⟨some 79, none, .bin .lss (.k 78) (.c (.i .i64 11)), [], 0⟩] false [0, 2, 4, 5, 79] [2, 4])
  (.cond 79 (.seq (.reg [] [⟨some 80, none, .ld true 5 .tk (.k 4), [], 0⟩,
    ⟨none, none, .st 5 (.t 2) (.k 80), [], 0⟩,
    ⟨some 3, none, .mv (.c (.i .i64 1)), [], 0⟩] false [2, 3] [2])
  .ret)
  .skip))
  (.seq (.seq (.reg [] [⟨some 81, none, .mv (.t 5), [], 0⟩,
    ⟨some 82, none, .ixs (.k 81) (.c (.i .i64 10)), [], 0⟩,
    ⟨some 83, none, .bin .neq (.k 82) (.c (.i .u8 2)), [], 0⟩] false [0, 2, 4, 5, 83] [2, 4])
  (.cond 83 (.seq (.reg [] [⟨some 84, none, .ld true 5 .tk (.k 4), [], 0⟩,
    ⟨none, none, .st 5 (.t 2) (.k 84), [], 0⟩,
    ⟨some 3, none, .mv (.c (.i .i64 2)), [], 0⟩] false [2, 3] [2])
  .ret)
  .skip))
  (.seq (.reg [] [⟨some 6, none, .mv (.c (.i .i64 37)), [], 0⟩] false [0, 2, 4, 5, 6] [2, 4])
  (.seq (.reg [] [⟨some 85, none, .bs 1 0 (.s ⟨#[]⟩) [], [], 1⟩,
    ⟨some 7, none, .mv (.k 85), [], 0⟩] false [0, 2, 4, 5, 6, 7] [2, 4])
  (.seq (.seq (.reg [] [⟨some 8, none, .mv (.c (.i .i64 0)), [], 0⟩] false [0, 2, 4, 5, 6, 7, 8] [2, 4])
  (.blk 1 (.loop (.seq (.seq (.reg [] [⟨some 86, none, .mv (.t 8), [], 0⟩,
    ⟨some 87, none, .bin .lss (.k 86) (.c (.i .i64 2)), [], 0⟩] false [0, 2, 4, 5, 6, 7, 8, 87] [2, 4])
  (.cond 87 .skip
  (.exit 1)))
  (.seq (.blk 2 (.seq (.seq (.reg [] [⟨some 90, none, .mv (.t 5), [], 0⟩,
    ⟨some 91, none, .len true (.k 90), [], 0⟩,
    ⟨some 92, none, .mv (.t 8), [], 0⟩,
    ⟨some 93, none, .bin .mul (.c (.i .i64 13)) (.k 92), [], 0⟩,
    ⟨some 94, none, .bin .add (.c (.i .i64 24)) (.k 93), [], 0⟩,
    ⟨some 95, none, .bin .lss (.k 91) (.k 94), [], 0⟩] false [0, 2, 4, 5, 6, 7, 8, 95] [2, 4])
  (.cond 95 (.seq (.reg [] [⟨some 96, none, .ld true 5 .tk (.k 4), [], 0⟩,
    ⟨none, none, .st 5 (.t 2) (.k 96), [], 0⟩,
    ⟨some 3, none, .mv (.c (.i .i64 1)), [], 0⟩] false [2, 3] [2])
  .ret)
  .skip))
  (.seq (.reg [] [⟨some 97, none, .mv (.t 5), [], 0⟩,
    ⟨some 98, none, .mv (.t 8), [], 0⟩,
    ⟨some 99, none, .bin .mul (.c (.i .i64 13)) (.k 98), [], 0⟩,
    ⟨some 100, none, .bin .add (.c (.i .i64 11)) (.k 99), [], 0⟩,
    ⟨some 101, none, .mv (.t 8), [], 0⟩,
    ⟨some 102, none, .bin .mul (.c (.i .i64 13)) (.k 101), [], 0⟩,
    ⟨some 103, none, .bin .add (.c (.i .i64 24)) (.k 102), [], 0⟩,
    ⟨some 104, none, .ss (.k 97) (some (.k 100)) (some (.k 103)), [], 0⟩,
    ⟨some 9, none, .mv (.k 104), [], 0⟩] false [0, 2, 4, 5, 6, 7, 8, 9] [2, 4])
  (.seq (.seq (.reg [] [⟨some 105, none, .mv (.t 9), [], 0⟩,
    ⟨some 106, none, .ixs (.k 105) (.c (.i .i64 0)), [], 0⟩,
    ⟨some 107, none, .cv (.int .i64) (.k 106), [], 0⟩,
    ⟨some 108, none, .mv (.t 8), [], 0⟩,
    ⟨some 109, none, .bin .add (.k 108) (.c (.i .i64 1)), [], 0⟩,
    ⟨some 110, none, .bin .neq (.k 107) (.k 109), [], 0⟩,
    ⟨some 111, none, .mv (.k 110), [], 0⟩,
    ⟨some 112, some (111, false), .mv (.t 9), [], 0⟩,
    ⟨some 113, some (111, false), .ss (.k 112) (some (.c (.i .i64 1))) (some (.c (.i .i64 5))), [], 0⟩,
    ⟨some 114, some (111, false), .call n_c_ref20_number [.k 113], [], 0⟩,
    ⟨some 115, some (111, false), .mv (.t 6), [], 0⟩,
    ⟨some 116, some (111, false), .bin .neq (.k 114) (.k 115), [], 0⟩,
    ⟨some 117, none, .pick (.k 111) (.c (.b true)) (.k 116), [], 0⟩] false [0, 2, 4, 5, 6, 7, 8, 9, 117] [2, 4])
  (.cond 117 (.seq (.reg [] [⟨some 118, none, .ld true 5 .tk (.k 4), [], 0⟩,
    ⟨none, none, .st 5 (.t 2) (.k 118), [], 0⟩,
    ⟨some 3, none, .mv (.c (.i .i64 2)), [], 0⟩] false [2, 3] [2])
  .ret)
  .skip))
  (.seq (.reg [] [⟨some 119, none, .mv (.t 9), [], 0⟩,
    ⟨some 120, none, .ss (.k 119) (some (.c (.i .i64 5))) (some (.c (.i .i64 9))), [], 0⟩,
    ⟨some 121, none, .call n_c_ref20_number [.k 120], [], 0⟩,
    ⟨some 10, none, .mv (.k 121), [], 0⟩] false [0, 2, 4, 5, 6, 7, 8, 9, 10] [2, 4])
  (.seq (.seq (.reg [] [⟨some 122, none, .mv (.t 6), [], 0⟩,
    ⟨some 123, none, .mv (.t 10), [], 0⟩,
    ⟨some 124, none, .bin .add (.k 122) (.k 123), [], 0⟩,
    ⟨some 125, none, .mv (.t 5), [], 0⟩,
    ⟨some 126, none, .len true (.k 125), [], 0⟩,
    ⟨some 127, none, .bin .gtr (.k 124) (.k 126), [], 0⟩] false [0, 2, 4, 5, 6, 7, 8, 9, 10, 127] [2, 4])
  (.cond 127 (.seq (.reg [] [⟨some 128, none, .ld true 5 .tk (.k 4), [], 0⟩,
    ⟨none, none, .st 5 (.t 2) (.k 128), [], 0⟩,
    ⟨some 3, none, .mv (.c (.i .i64 1)), [], 0⟩] false [2, 3] [2])
  .ret)
  .skip))
  (.seq (.reg [] [⟨some 129, none, .mv (.t 5), [], 0⟩,
    ⟨some 130, none, .mv (.t 6), [], 0⟩,
    ⟨some 131, none, .mv (.t 6), [], 0⟩,
    ⟨some 132, none, .mv (.t 10), [], 0⟩,
    ⟨some 133, none, .bin .add (.k 131) (.k 132), [], 0⟩,
    ⟨some 134, none, .ss (.k 129) (some (.k 130)) (some (.k 133)), [], 0⟩,
    ⟨some 11, none, .mv (.k 134), [], 0⟩] false [0, 2, 4, 5, 6, 7, 8, 9, 10, 11] [2, 4])
  (.seq (.seq (.reg [] [⟨some 135, none, .mv (.t 11), [], 0⟩,
    ⟨some 136, none, .call n_c_ref02_Sum [.k 135], [], 0⟩,
    ⟨some 137, none, .cv (.int .i64) (.k 136), [], 0⟩,
    ⟨some 138, none, .mv (.k 9), [0, 1, 2], 0⟩,
    ⟨some 139, none, .ss (.k 138) (some (.c (.i .i64 9))) (some (.c (.i .i64 13))), [0, 1, 2], 0⟩,
    ⟨some 140, none, .call n_c_ref20_number [.k 139], [2], 0⟩,
    ⟨some 141, none, .bin .neq (.k 137) (.k 140), [], 0⟩] true [0, 2, 4, 5, 6, 7, 8, 10, 11, 141] [2, 4])
  (.cond 141 (.seq (.reg [] [⟨some 142, none, .ld true 5 .tk (.k 4), [], 0⟩,
    ⟨none, none, .st 5 (.t 2) (.k 142), [], 0⟩,
    ⟨some 3, none, .mv (.c (.i .i64 7)), [], 0⟩] false [2, 3] [2])
  .ret)
  .skip))
  (.seq (.reg [] [⟨some 143, none, .mv (.k 7), [], 0⟩,
    ⟨some 144, none, .mv (.k 11), [], 0⟩,
    ⟨some 145, none, .bs 1 1 (.s ⟨#[]⟩) [(0, .k 144)], [], 0⟩,
    ⟨some 146, none, .app 1 16 (.k 143) (.k 145), [], 1⟩,
    ⟨some 7, none, .mv (.k 146), [], 0⟩] false [0, 2, 4, 5, 6, 7, 8, 10] [2, 4])
  (.reg [] [⟨some 147, none, .mv (.k 6), [], 0⟩,
    ⟨some 148, none, .mv (.k 10), [], 0⟩,
    ⟨some 149, none, .bin .add (.k 147) (.k 148), [], 0⟩,
    ⟨some 6, none, .mv (.k 149), [], 0⟩] false [0, 2, 4, 5, 6, 7, 8] [2, 4]))))))))))
  (.reg [] [⟨some 88, none, .mv (.k 8), [], 0⟩,
    ⟨some 89, none, .bin .add (.k 88) (.c (.i .i64 1)), [], 0⟩,
    ⟨some 8, none, .mv (.k 89), [], 0⟩] false [0, 2, 4, 5, 6, 7, 8] [2, 4]))))))
  (.seq (.seq (.reg [] [⟨some 150, none, .mv (.k 6), [], 0⟩,
    ⟨some 151, none, .mv (.k 5), [], 0⟩,
    ⟨some 152, none, .len true (.k 151), [], 0⟩,
    ⟨some 153, none, .bin .lss (.k 150) (.k 152), [], 0⟩] false [0, 2, 4, 7, 153] [2, 4])
  (.cond 153 (.seq (.reg [] [⟨some 154, none, .ld true 5 .tk (.k 4), [], 0⟩,
    ⟨none, none, .st 5 (.t 2) (.k 154), [], 0⟩,
    ⟨some 3, none, .mv (.c (.i .i64 2)), [], 0⟩] false [2, 3] [2])
  .ret)
  .skip))
  (.seq (.seq (.reg [] [⟨some 155, none, .mv (.t 0), [], 0⟩,
    ⟨some 156, none, .ixs (.k 155) (.c (.i .i64 5)), [], 0⟩,
    ⟨some 157, none, .bin .lss (.k 156) (.c (.i .u8 1)), [], 0⟩,
    ⟨some 158, none, .mv (.k 157), [], 0⟩,
    ⟨some 159, some (158, false), .mv (.t 0), [], 0⟩,
    ⟨some 160, some (158, false), .ixs (.k 159) (.c (.i .i64 5)), [], 0⟩,
    ⟨some 161, some (158, false), .bin .gtr (.k 160) (.c (.i .u8 4)), [], 0⟩,
    ⟨some 162, none, .pick (.k 158) (.c (.b true)) (.k 161), [], 0⟩] false [0, 2, 4, 7, 162] [2, 4])
  (.cond 162 (.seq (.reg [] [⟨some 163, none, .ld true 5 .tk (.k 4), [], 0⟩,
    ⟨none, none, .st 5 (.t 2) (.k 163), [], 0⟩,
    ⟨some 3, none, .mv (.c (.i .i64 6)), [], 0⟩] false [2, 3] [2])
  .ret)
  .skip))
  (.seq (.reg [] [⟨some 165, none, .mv (.k 0), [], 0⟩,
    ⟨some 166, none, .ixs (.k 165) (.c (.i .i64 5)), [], 0⟩,
    ⟨some 167, none, .cv (.int .i64) (.k 166), [], 0⟩,
    ⟨some 168, none, .mv (.t 7), [0, 1, 2], 0⟩,
    ⟨some 169, none, .ia 1 none (.k 168) (.c (.i .i64 0)), [0, 1, 2], 0⟩,
    ⟨some 170, none, .ld false 1 .cp (.k 169), [0, 1, 2], 0⟩,
    ⟨some 171, none, .mv (.t 7), [0, 1, 2, 3, 4, 5], 0⟩,
    ⟨some 172, none, .ia 1 none (.k 171) (.c (.i .i64 1)), [0, 1, 2, 3, 4, 5], 0⟩,
    ⟨some 173, none, .ld false 1 .cp (.k 172), [0, 1, 2, 3, 4, 5], 0⟩,
    ⟨some 174, none, .call n_c_ref19_Read [.k 167, .k 170, .k 173], [], 0⟩,
    ⟨some 164, none, .mv (.k 174), [], 0⟩,
    ⟨some 175, none, .ex false 0 164, [], 0⟩,
    ⟨some 176, none, .ex false 1 164, [11], 0⟩,
    ⟨some 12, none, .al ([.i .i64 0, .i .i64 0, .i .u64 0, .l .o 1 [], .l .o 1 []]), [0, 1, 2, 3, 4, 5, 6, 7, 8, 9, 10, 11, 12], 0⟩,
    ⟨none, none, .st 5 (.t 12) (.k 175), [12], 0⟩,
    ⟨some 13, none, .mv (.k 176), [], 0⟩] true [2, 4, 12, 13] [2, 4, 12])
  (.seq (.seq (.reg [] [⟨some 177, none, .mv (.t 13), [], 0⟩,
    ⟨some 178, none, .bin .eql (.k 177) (.c (.i .i64 0)), [], 0⟩] false [2, 4, 12, 13, 178] [2, 4, 12])
  (.cond 178 (.reg [] [⟨some 179, none, .ld true 5 .cp (.t 12), [], 2⟩,
    ⟨some 180, none, .call n_c_ref17_Check [.k 179], [], 0⟩,
    ⟨some 13, none, .mv (.k 180), [], 0⟩] false [2, 4, 12, 13] [2, 4, 12])
  .skip))
  (.seq (.seq (.reg [] [⟨some 181, none, .mv (.t 13), [], 0⟩,
    ⟨some 182, none, .bin .neq (.k 181) (.c (.i .i64 0)), [], 0⟩] false [2, 4, 12, 13, 182] [2, 4, 12])
  (.cond 182 (.seq (.reg [] [⟨some 183, none, .ld true 5 .tk (.k 4), [], 0⟩,
    ⟨some 184, none, .mv (.k 13), [], 0⟩,
    ⟨none, none, .st 5 (.t 2) (.k 183), [], 0⟩,
    ⟨some 3, none, .mv (.k 184), [], 0⟩] false [2, 3] [2])
  .ret)
  .skip))
  (.seq (.reg [] [⟨some 185, none, .ld true 5 .tk (.k 12), [], 0⟩,
    ⟨none, none, .st 5 (.t 2) (.k 185), [], 0⟩,
    ⟨some 3, none, .mv (.c (.i .i64 0)), [], 0⟩] false [2, 3] [2])
  .ret))))))))))))))))⟩

def F_c_ref02_Word : F := ⟨1, [.inl 2],
  (.seq (.reg [] [⟨some 2, none, .mv (.c (.s ⟨#[]⟩)), [], 0⟩] false [0] [])
  (.seq (.reg [] [⟨some 3, none, .mv (.t 0), [], 0⟩,
    ⟨some 4, none, .bin .rem (.k 3) (.c (.i .u32 256)), [], 0⟩,
    ⟨some 5, none, .cv (.int .u8) (.k 4), [], 0⟩,
    ⟨some 6, none, .mv (.t 0), [], 0⟩,
    ⟨some 7, none, .bin .quo (.k 6) (.c (.i .u32 256)), [], 0⟩,
    ⟨some 8, none, .bin .rem (.k 7) (.c (.i .u32 256)), [], 0⟩,
    ⟨some 9, none, .cv (.int .u8) (.k 8), [], 0⟩,
    ⟨some 10, none, .mv (.t 0), [], 0⟩,
    ⟨some 11, none, .bin .quo (.k 10) (.c (.i .u32 65536)), [], 0⟩,
    ⟨some 12, none, .bin .rem (.k 11) (.c (.i .u32 256)), [], 0⟩,
    ⟨some 13, none, .cv (.int .u8) (.k 12), [], 0⟩,
    ⟨some 14, none, .mv (.k 0), [], 0⟩,
    ⟨some 15, none, .bin .quo (.k 14) (.c (.i .u32 16777216)), [], 0⟩,
    ⟨some 16, none, .cv (.int .u8) (.k 15), [], 0⟩,
    ⟨some 17, none, .bs 1 4 (.i .u8 0) [(0, .k 5), (1, .k 9), (2, .k 13), (3, .k 16)], [], 1⟩,
    ⟨some 18, none, .cv .str (.k 17), [], 0⟩,
    ⟨some 2, none, .mv (.k 18), [], 0⟩] false [2] [])
  .ret))⟩

def F_crc_Make : F := ⟨0, [.inl 0],
  (.seq (.reg [] [⟨some 0, none, .mv (.c (.nilp)), [], 0⟩] false [] [])
  (.seq (.reg [] [⟨some 4, none, .bd (List.replicate 256 (.i .u32 0 : D)) [], [], 0⟩,
    ⟨some 5, none, .bg (.k 4), [], 0⟩,
    ⟨some 1, none, .mv (.k 5), [], 0⟩] false [1] [])
  (.seq (.seq (.reg [] [⟨some 6, none, .mv (.c (.i .i64 0)), [], 0⟩] false [1, 6] [])
  (.blk 0 (.loop (.seq (.reg [] [⟨some 7, none, .bin .lss (.t 6) (.c (.i .i64 256)), [], 0⟩] false [1, 6, 7] [])
  (.seq (.cond 7 .skip
  (.exit 0))
  (.seq (.blk 1 (.seq (.reg [] [⟨some 8, none, .mv (.t 6), [], 0⟩,
    ⟨some 2, none, .mv (.k 8), [], 0⟩] false [1, 2, 6] [])
  (.seq (.reg [] [⟨some 9, none, .mv (.t 2), [], 0⟩,
    ⟨some 10, none, .cv (.int .u32) (.k 9), [], 0⟩,
    ⟨some 3, none, .mv (.k 10), [], 0⟩] false [1, 2, 3, 6] [])
  (.seq (.seq (.reg [] [⟨some 11, none, .mv (.c (.i .i64 0)), [], 0⟩] false [1, 2, 3, 6, 11] [])
  (.blk 2 (.loop (.seq (.reg [] [⟨some 12, none, .bin .lss (.t 11) (.c (.i .i64 8)), [], 0⟩] false [1, 2, 3, 6, 11, 12] [])
  (.seq (.cond 12 .skip
  (.exit 2))
  (.seq (.blk 3 (.seq (.reg [] [⟨some 13, none, .mv (.t 3), [], 0⟩,
    ⟨some 14, none, .bin .and (.k 13) (.c (.i .u32 1)), [], 0⟩,
    ⟨some 15, none, .bin .eql (.k 14) (.c (.i .u32 1)), [], 0⟩] false [1, 2, 3, 6, 11, 15] [])
  (.cond 15 (.reg [] [⟨some 16, none, .mv (.k 3), [], 0⟩,
    ⟨some 17, none, .bin .shr (.k 16) (.c (.i .u64 1)), [], 0⟩,
    ⟨some 18, none, .bin .xor (.k 17) (.c (.i .u32 3988292384)), [], 0⟩,
    ⟨some 3, none, .mv (.k 18), [], 0⟩] false [1, 2, 3, 6, 11] [])
  (.reg [] [⟨some 19, none, .mv (.k 3), [], 0⟩,
    ⟨some 20, none, .bin .shr (.k 19) (.c (.i .u64 1)), [], 0⟩,
    ⟨some 3, none, .mv (.k 20), [], 0⟩] false [1, 2, 3, 6, 11] []))))
  (.reg [] [⟨some 21, none, .bin .add (.k 11) (.c (.i .i64 1)), [], 0⟩,
    ⟨some 11, none, .mv (.k 21), [], 0⟩] false [1, 2, 3, 6, 11] [])))))))
  (.reg [] [⟨some 22, none, .mv (.t 1), [], 0⟩,
    ⟨some 23, none, .mv (.k 2), [], 0⟩,
    ⟨some 24, none, .mv (.k 3), [], 0⟩,
    ⟨some 25, none, .nc (.k 22), [], 0⟩,
    ⟨some 26, none, .ia 1 (some 256) (.k 25) (.k 23), [], 0⟩,
    ⟨none, none, .st 1 (.k 26) (.k 24), [], 0⟩] false [1, 6] [])))))
  (.reg [] [⟨some 27, none, .bin .add (.k 6) (.c (.i .i64 1)), [], 0⟩,
    ⟨some 6, none, .mv (.k 27), [], 0⟩] false [1, 6] [])))))))
  (.seq (.reg [] [⟨some 28, none, .mv (.k 1), [], 0⟩,
    ⟨some 0, none, .mv (.k 28), [], 0⟩] false [0] [])
  .ret))))⟩

def F_file_reader_begin : F := ⟨2, [.inl 4, .inl 5, .inl 6],
  (.seq (.reg [] [⟨some 4, none, .mv (.c (.nilp)), [], 0⟩,
    ⟨some 5, none, .mv (.c (.i .i64 0)), [], 0⟩,
    ⟨some 6, none, .mv (.c (.i .i64 0)), [], 0⟩] false [0, 1] [])
  (.seq (.blk 0 (.seq (.reg [] [⟨some 13, none, .mv (.t 1), [], 0⟩,
    ⟨some 14, none, .call n_strings_HasPrefix [.k 13, .c (.s ⟨#[67, 82, 89, 79]⟩)], [], 0⟩,
    ⟨some 15, none, .un .not (.k 14), [], 0⟩,
    ⟨some 12, none, .mv (.k 15), [], 0⟩] false [0, 1, 12] [])
  (.cond 12 (.seq (.reg [] [⟨some 4, none, .mv (.c (.nilp)), [], 0⟩,
    ⟨some 5, none, .mv (.c (.i .i64 0)), [], 0⟩,
    ⟨some 6, none, .mv (.c (.i .i64 10)), [], 0⟩] false [4, 5, 6] [])
  .ret)
  (.seq (.reg [] [⟨some 17, none, .mv (.t 1), [], 0⟩,
    ⟨some 18, none, .len true (.k 17), [], 0⟩,
    ⟨some 19, none, .bin .gtr (.k 18) (.c (.i .i64 65536)), [], 0⟩,
    ⟨some 16, none, .mv (.k 19), [], 0⟩] false [0, 1, 16] [])
  (.cond 16 (.seq (.reg [] [⟨some 4, none, .mv (.c (.nilp)), [], 0⟩,
    ⟨some 5, none, .mv (.c (.i .i64 0)), [], 0⟩,
    ⟨some 6, none, .mv (.c (.i .i64 3)), [], 0⟩] false [4, 5, 6] [])
  .ret)
  .skip)))))
  (.seq (.reg [] [⟨some 20, none, .mv (.t 1), [], 0⟩,
    ⟨some 21, none, .call n_octet_Of [.k 20], [], 0⟩,
    ⟨some 7, none, .mv (.k 21), [], 0⟩] false [0, 1, 7] [])
  (.seq (.reg [] [⟨some 22, none, .mv (.t 7), [], 0⟩,
    ⟨some 23, none, .call n_octet_In_Bytes [.k 22, .c (.i .i64 4)], [], 0⟩] false [0, 1, 7] [])
  (.seq (.reg [] [⟨some 24, none, .mv (.t 7), [], 0⟩,
    ⟨some 25, none, .call n_octet_In_Byte [.k 24], [], 0⟩,
    ⟨some 26, none, .mv (.t 7), [], 0⟩,
    ⟨some 27, none, .call n_octet_In_Byte [.k 26], [], 0⟩,
    ⟨some 28, none, .cv (.int .i64) (.k 27), [], 0⟩,
    ⟨some 29, none, .mv (.t 7), [], 0⟩,
    ⟨some 30, none, .call n_octet_In_Word [.k 29], [], 0⟩,
    ⟨some 31, none, .cv (.int .i64) (.k 30), [], 0⟩,
    ⟨some 8, none, .mv (.k 25), [], 0⟩,
    ⟨some 9, none, .mv (.k 28), [], 0⟩,
    ⟨some 10, none, .mv (.k 31), [], 0⟩] false [0, 1, 7, 8, 9, 10] [])
  (.seq (.blk 1 (.seq (.reg [] [⟨some 33, none, .mv (.t 1), [], 0⟩,
    ⟨some 34, none, .len true (.k 33), [], 0⟩,
    ⟨some 35, none, .bin .gtr (.k 34) (.c (.i .i64 4)), [], 0⟩,
    ⟨some 36, none, .mv (.k 35), [], 0⟩,
    ⟨some 37, some (36, true), .mv (.k 8), [], 0⟩,
    ⟨some 38, some (36, true), .bin .neq (.k 37) (.c (.i .u8 4)), [], 0⟩,
    ⟨some 39, none, .pick (.k 36) (.k 38) (.c (.b false)), [], 0⟩,
    ⟨some 32, none, .mv (.k 39), [], 0⟩] false [0, 1, 7, 9, 10, 32] [])
  (.cond 32 (.seq (.reg [] [⟨some 4, none, .mv (.c (.nilp)), [], 0⟩,
    ⟨some 5, none, .mv (.c (.i .i64 0)), [], 0⟩,
    ⟨some 6, none, .mv (.c (.i .i64 8)), [], 0⟩] false [4, 5, 6] [])
  .ret)
  (.seq (.reg [] [⟨some 41, none, .mv (.t 7), [], 0⟩,
    ⟨some 42, none, .call n_octet_In_Err [.k 41], [], 0⟩,
    ⟨some 43, none, .bin .neq (.k 42) (.c (.i .i64 0)), [], 0⟩,
    ⟨some 40, none, .mv (.k 43), [], 0⟩] false [0, 1, 7, 9, 10, 40] [])
  (.cond 40 (.seq (.reg [] [⟨some 44, none, .mv (.k 7), [], 0⟩,
    ⟨some 45, none, .call n_octet_In_Err [.k 44], [], 0⟩,
    ⟨some 4, none, .mv (.c (.nilp)), [], 0⟩,
    ⟨some 5, none, .mv (.c (.i .i64 0)), [], 0⟩,
    ⟨some 6, none, .mv (.k 45), [], 0⟩] false [4, 5, 6] [])
  .ret)
  (.seq (.reg [] [⟨some 47, none, .mv (.t 10), [], 0⟩,
    ⟨some 48, none, .mv (.t 1), [], 0⟩,
    ⟨some 49, none, .len true (.k 48), [], 0⟩,
    ⟨some 50, none, .bin .gtr (.k 47) (.k 49), [], 0⟩,
    ⟨some 46, none, .mv (.k 50), [], 0⟩] false [0, 1, 9, 10, 46] [])
  (.cond 46 (.seq (.reg [] [⟨some 4, none, .mv (.c (.nilp)), [], 0⟩,
    ⟨some 5, none, .mv (.c (.i .i64 0)), [], 0⟩,
    ⟨some 6, none, .mv (.c (.i .i64 1)), [], 0⟩] false [4, 5, 6] [])
  .ret)
  (.seq (.reg [] [⟨some 52, none, .mv (.k 10), [], 0⟩,
    ⟨some 53, none, .mv (.t 1), [], 0⟩,
    ⟨some 54, none, .len true (.k 53), [], 0⟩,
    ⟨some 55, none, .bin .lss (.k 52) (.k 54), [], 0⟩,
    ⟨some 51, none, .mv (.k 55), [], 0⟩] false [0, 1, 9, 51] [])
  (.cond 51 (.seq (.reg [] [⟨some 4, none, .mv (.c (.nilp)), [], 0⟩,
    ⟨some 5, none, .mv (.c (.i .i64 0)), [], 0⟩,
    ⟨some 6, none, .mv (.c (.i .i64 2)), [], 0⟩] false [4, 5, 6] [])
  .ret)
  .skip)))))))))
  (.seq (.reg [] [⟨some 11, none, .mv (.c (.i .i64 0)), [], 0⟩] false [0, 1, 9] [])
  (.seq (.reg [] [⟨some 57, none, .mv (.t 0), [], 0⟩,
    ⟨some 58, none, .mv (.t 0), [], 0⟩,
    ⟨some 59, none, .nc (.k 58), [], 0⟩,
    ⟨some 60, none, .fa 0 (.k 59), [], 0⟩,
    ⟨some 61, none, .ld false 1 .cp (.k 60), [], 0⟩,
    ⟨some 62, none, .mv (.k 1), [], 0⟩,
    ⟨some 63, none, .call n_crc_Table_Open [.k 61, .k 62], [], 0⟩,
    ⟨some 56, none, .mv (.k 63), [], 0⟩,
    ⟨some 64, none, .ex false 0 56, [], 0⟩,
    ⟨some 65, none, .ex false 1 56, [], 0⟩,
    ⟨some 66, none, .nc (.k 57), [], 0⟩,
    ⟨some 67, none, .fa 1 (.k 66), [], 0⟩,
    ⟨none, none, .st 1 (.k 67) (.k 64), [], 0⟩,
    ⟨some 11, none, .mv (.k 65), [], 0⟩] false [0, 9, 11] [])
  (.seq (.reg [] [⟨some 68, none, .mv (.k 0), [], 0⟩,
    ⟨some 69, none, .nc (.k 68), [], 0⟩,
    ⟨some 70, none, .fa 1 (.k 69), [], 0⟩,
    ⟨some 71, none, .ld false 1 .cp (.k 70), [], 0⟩,
    ⟨some 72, none, .call n_octet_Of [.k 71], [], 0⟩,
    ⟨some 7, none, .mv (.k 72), [], 0⟩] false [7, 9, 11] [])
  (.seq (.reg [] [⟨some 73, none, .mv (.t 7), [], 0⟩,
    ⟨some 74, none, .call n_octet_In_Bytes [.k 73, .c (.i .i64 10)], [], 0⟩] false [7, 9, 11] [])
  (.seq (.reg [] [⟨some 75, none, .mv (.k 7), [], 0⟩,
    ⟨some 76, none, .mv (.k 9), [], 0⟩,
    ⟨some 77, none, .mv (.k 11), [], 0⟩,
    ⟨some 4, none, .mv (.k 75), [], 0⟩,
    ⟨some 5, none, .mv (.k 76), [], 0⟩,
    ⟨some 6, none, .mv (.k 77), [], 0⟩] false [4, 5, 6] [])
  .ret)))))))))))⟩

def F_file_reader_sections : F := ⟨2, [.inl 4],
  (.seq (.reg [] [⟨some 4, none, .mv (.c (.i .i64 0)), [], 0⟩] false [0, 1] [])
  (.seq (.reg [] [⟨some 13, none, .mv (.t 1), [], 0⟩,
    ⟨some 14, none, .call n_octet_In_Byte [.k 13], [], 0⟩,
    ⟨some 15, none, .cv (.int .i64) (.k 14), [], 0⟩,
    ⟨some 5, none, .mv (.k 15), [], 0⟩] false [0, 1, 5] [])
  (.seq (.blk 0 (.seq (.reg [] [⟨some 17, none, .mv (.t 1), [], 0⟩,
    ⟨some 18, none, .call n_octet_In_Err [.k 17], [], 0⟩,
    ⟨some 19, none, .bin .neq (.k 18) (.c (.i .i64 0)), [], 0⟩,
    ⟨some 16, none, .mv (.k 19), [], 0⟩] false [0, 1, 5, 16] [])
  (.cond 16 (.seq (.reg [] [⟨some 20, none, .mv (.k 1), [], 0⟩,
    ⟨some 21, none, .call n_octet_In_Err [.k 20], [], 0⟩,
    ⟨some 4, none, .mv (.k 21), [], 0⟩] false [4] [])
  .ret)
  (.seq (.reg [] [⟨some 23, none, .mv (.t 5), [], 0⟩,
    ⟨some 24, none, .bin .neq (.k 23) (.c (.i .i64 2)), [], 0⟩,
    ⟨some 22, none, .mv (.k 24), [], 0⟩] false [0, 1, 5, 22] [])
  (.cond 22 (.seq (.reg [] [⟨some 4, none, .mv (.c (.i .i64 2)), [], 0⟩] false [4] [])
  .ret)
  .skip)))))
  (.seq (.reg [] [⟨some 25, none, .mv (.t 5), [], 0⟩,
    ⟨some 26, none, .bin .mul (.c (.i .i64 13)) (.k 25), [], 0⟩,
    ⟨some 27, none, .bin .add (.c (.i .i64 11)) (.k 26), [], 0⟩,
    ⟨some 6, none, .mv (.k 27), [], 0⟩] false [0, 1, 5, 6] [])
  (.seq (.seq (.reg [] [⟨some 28, none, .mv (.k 5), [], 0⟩,
    ⟨some 29, none, .mv (.c (.i .i64 0)), [], 0⟩] false [0, 1, 6, 28, 29] [])
  (.blk 1 (.loop (.seq (.reg [] [⟨some 30, none, .bin .lss (.t 29) (.t 28), [], 0⟩] false [0, 1, 6, 28, 29, 30] [])
  (.seq (.cond 30 .skip
  (.exit 1))
  (.seq (.blk 2 (.seq (.reg [] [⟨some 31, none, .mv (.t 29), [], 0⟩,
    ⟨some 7, none, .mv (.k 31), [], 0⟩] false [0, 1, 6, 7, 28, 29] [])
  (.seq (.reg [] [⟨some 32, none, .mv (.t 1), [], 0⟩,
    ⟨some 33, none, .call n_octet_In_Byte [.k 32], [], 0⟩,
    ⟨some 34, none, .cv (.int .i64) (.k 33), [], 0⟩,
    ⟨some 35, none, .mv (.t 1), [], 0⟩,
    ⟨some 36, none, .call n_octet_In_Word [.k 35], [], 0⟩,
    ⟨some 37, none, .cv (.int .i64) (.k 36), [], 0⟩,
    ⟨some 38, none, .mv (.t 1), [], 0⟩,
    ⟨some 39, none, .call n_octet_In_Word [.k 38], [], 0⟩,
    ⟨some 40, none, .cv (.int .i64) (.k 39), [], 0⟩,
    ⟨some 41, none, .mv (.t 1), [], 0⟩,
    ⟨some 42, none, .call n_octet_In_Word [.k 41], [], 0⟩,
    ⟨some 8, none, .mv (.k 34), [], 0⟩,
    ⟨some 9, none, .mv (.k 37), [], 0⟩,
    ⟨some 10, none, .mv (.k 40), [], 0⟩,
    ⟨some 11, none, .mv (.k 42), [], 0⟩] false [0, 1, 6, 7, 8, 9, 10, 11, 28, 29] [])
  (.seq (.blk 3 (.seq (.reg [] [⟨some 44, none, .mv (.t 1), [], 0⟩,
    ⟨some 45, none, .call n_octet_In_Err [.k 44], [], 0⟩,
    ⟨some 46, none, .bin .neq (.k 45) (.c (.i .i64 0)), [], 0⟩,
    ⟨some 43, none, .mv (.k 46), [], 0⟩] false [0, 1, 6, 7, 8, 9, 10, 11, 28, 29, 43] [])
  (.cond 43 (.seq (.reg [] [⟨some 47, none, .mv (.k 1), [], 0⟩,
    ⟨some 48, none, .call n_octet_In_Err [.k 47], [], 0⟩,
    ⟨some 4, none, .mv (.k 48), [], 0⟩] false [4] [])
  .ret)
  (.seq (.reg [] [⟨some 50, none, .mv (.t 8), [], 0⟩,
    ⟨some 51, none, .mv (.k 7), [], 0⟩,
    ⟨some 52, none, .bin .add (.k 51) (.c (.i .i64 1)), [], 0⟩,
    ⟨some 53, none, .bin .neq (.k 50) (.k 52), [], 0⟩,
    ⟨some 54, none, .mv (.k 53), [], 0⟩,
    ⟨some 55, some (54, false), .mv (.t 9), [], 0⟩,
    ⟨some 56, some (54, false), .mv (.k 6), [], 0⟩,
    ⟨some 57, some (54, false), .bin .neq (.k 55) (.k 56), [], 0⟩,
    ⟨some 58, none, .pick (.k 54) (.c (.b true)) (.k 57), [], 0⟩,
    ⟨some 49, none, .mv (.k 58), [], 0⟩] false [0, 1, 8, 9, 10, 11, 28, 29, 49] [])
  (.cond 49 (.seq (.reg [] [⟨some 4, none, .mv (.c (.i .i64 2)), [], 0⟩] false [4] [])
  .ret)
  (.seq (.reg [] [⟨some 60, none, .mv (.t 10), [], 0⟩,
    ⟨some 61, none, .mv (.t 0), [], 0⟩,
    ⟨some 62, none, .nc (.k 61), [], 0⟩,
    ⟨some 63, none, .fa 1 (.k 62), [], 0⟩,
    ⟨some 64, none, .ld false 1 .cp (.k 63), [], 0⟩,
    ⟨some 65, none, .len true (.k 64), [], 0⟩,
    ⟨some 66, none, .mv (.t 9), [], 0⟩,
    ⟨some 67, none, .bin .sub (.k 65) (.k 66), [], 0⟩,
    ⟨some 68, none, .bin .gtr (.k 60) (.k 67), [], 0⟩,
    ⟨some 59, none, .mv (.k 68), [], 0⟩] false [0, 1, 8, 9, 10, 11, 28, 29, 59] [])
  (.cond 59 (.seq (.reg [] [⟨some 4, none, .mv (.c (.i .i64 1)), [], 0⟩] false [4] [])
  .ret)
  .skip)))))))
  (.seq (.reg [] [⟨some 69, none, .mv (.t 9), [], 0⟩,
    ⟨some 70, none, .mv (.k 10), [], 0⟩,
    ⟨some 71, none, .bin .add (.k 69) (.k 70), [], 0⟩,
    ⟨some 6, none, .mv (.k 71), [], 0⟩] false [0, 1, 6, 8, 9, 11, 28, 29] [])
  (.seq (.reg [] [⟨some 72, none, .mv (.t 0), [], 0⟩,
    ⟨some 73, none, .nc (.k 72), [], 0⟩,
    ⟨some 74, none, .fa 1 (.k 73), [], 0⟩,
    ⟨some 75, none, .ld false 1 .cp (.k 74), [], 0⟩,
    ⟨some 76, none, .mv (.k 9), [], 0⟩,
    ⟨some 77, none, .mv (.t 6), [], 0⟩,
    ⟨some 78, none, .ss (.k 75) (some (.k 76)) (some (.k 77)), [], 0⟩,
    ⟨some 12, none, .mv (.k 78), [], 0⟩] false [0, 1, 6, 8, 11, 12, 28, 29] [])
  (.seq (.seq (.reg [] [⟨some 79, none, .mv (.t 0), [], 0⟩,
    ⟨some 80, none, .nc (.k 79), [], 0⟩,
    ⟨some 81, none, .fa 0 (.k 80), [], 0⟩,
    ⟨some 82, none, .ld false 1 .cp (.k 81), [], 0⟩,
    ⟨some 83, none, .mv (.t 12), [], 0⟩,
    ⟨some 84, none, .bs 1 1 (.s ⟨#[]⟩) [(0, .k 83)], [], 2⟩,
    ⟨some 85, none, .call n_crc_Table_Sum [.k 82, .k 84], [], 0⟩,
    ⟨some 86, none, .mv (.k 11), [], 0⟩,
    ⟨some 87, none, .bin .neq (.k 85) (.k 86), [], 0⟩] false [0, 1, 6, 8, 12, 28, 29, 87] [])
  (.cond 87 (.seq (.reg [] [⟨some 4, none, .mv (.c (.i .i64 7)), [], 0⟩] false [4] [])
  .ret)
  .skip))
  (.reg [] [⟨some 88, none, .mv (.t 0), [], 0⟩,
    ⟨some 89, none, .mv (.t 0), [], 0⟩,
    ⟨some 90, none, .nc (.k 89), [], 0⟩,
    ⟨some 91, none, .fa 2 (.k 90), [], 0⟩,
    ⟨some 92, none, .ld false 1 .tk (.k 91), [], 0⟩,
    ⟨some 93, none, .mv (.k 8), [], 0⟩,
    ⟨some 94, none, .mv (.k 12), [], 0⟩,
    ⟨some 95, none, .bd ([.i .i64 0, .s ⟨#[]⟩]) [(0, 1, .k 93), (1, 1, .k 94)], [], 0⟩,
    ⟨some 96, none, .bs 2 1 (.a ([.i .i64 0, .s ⟨#[]⟩])) [(0, .k 95)], [], 0⟩,
    ⟨some 97, none, .app 2 24 (.k 92) (.k 96), [], 1⟩,
    ⟨some 98, none, .nc (.k 88), [], 0⟩,
    ⟨some 99, none, .fa 2 (.k 98), [], 0⟩,
    ⟨none, none, .st 1 (.k 99) (.k 97), [], 0⟩] false [0, 1, 6, 28, 29] []))))))))
  (.reg [] [⟨some 100, none, .bin .add (.k 29) (.c (.i .i64 1)), [], 0⟩,
    ⟨some 29, none, .mv (.k 100), [], 0⟩] false [0, 1, 6, 28, 29] [])))))))
  (.seq (.seq (.reg [] [⟨some 101, none, .mv (.k 6), [], 0⟩,
    ⟨some 102, none, .mv (.k 0), [], 0⟩,
    ⟨some 103, none, .nc (.k 102), [], 0⟩,
    ⟨some 104, none, .fa 1 (.k 103), [], 0⟩,
    ⟨some 105, none, .ld false 1 .cp (.k 104), [], 0⟩,
    ⟨some 106, none, .len true (.k 105), [], 0⟩,
    ⟨some 107, none, .bin .neq (.k 101) (.k 106), [], 0⟩] false [107] [])
  (.cond 107 (.seq (.reg [] [⟨some 4, none, .mv (.c (.i .i64 2)), [], 0⟩] false [4] [])
  .ret)
  .skip))
  (.seq (.reg [] [⟨some 4, none, .mv (.c (.i .i64 0)), [], 0⟩] false [4] [])
  .ret)))))))⟩

def F_octet_Word : F := ⟨2, [.inl 4],
  (.seq (.reg [] [⟨some 4, none, .mv (.c (.l .o 1 [])), [], 0⟩] false [0, 1] [])
  (.seq (.reg [] [⟨some 5, none, .mv (.k 0), [], 0⟩,
    ⟨some 6, none, .mv (.k 1), [], 0⟩,
    ⟨some 7, none, .call n_octet_fixed_uint32 [.k 5, .k 6, .c (.i .i64 4)], [], 0⟩,
    ⟨some 4, none, .mv (.k 7), [], 0⟩] false [4] [])
  .ret))⟩

def F_crc_Table_Sum : F := ⟨2, [.inl 4],
  (.seq (.reg [.zz 1] [⟨some 4, none, .mv (.c (.i .u32 0)), [], 0⟩] false [0, 1] [])
  (.seq (.reg [] [⟨some 5, none, .mv (.c (.i .u32 0)), [], 0⟩] false [0, 1, 5] [])
  (.seq (.seq (.reg [] [⟨some 8, none, .mv (.k 1), [], 0⟩,
    ⟨some 9, none, .len false (.t 8), [], 0⟩,
    ⟨some 10, none, .mv (.c (.i .i64 0)), [], 0⟩] false [0, 5, 8, 9, 10] [])
  (.blk 0 (.loop (.seq (.reg [] [⟨some 11, none, .bin .lss (.t 10) (.t 9), [], 0⟩] false [0, 5, 8, 9, 10, 11] [])
  (.seq (.cond 11 .skip
  (.exit 0))
  (.seq (.blk 1 (.seq (.reg [] [⟨some 12, none, .ia 1 none (.t 8) (.t 10), [], 0⟩,
    ⟨some 13, none, .ld false 1 .cp (.k 12), [], 0⟩,
    ⟨some 7, none, .mv (.k 13), [], 0⟩] false [0, 5, 7, 8, 9, 10] [])
  (.reg [] [⟨some 14, none, .mv (.t 0), [], 0⟩,
    ⟨some 15, none, .mv (.k 5), [], 0⟩,
    ⟨some 16, none, .mv (.k 7), [], 0⟩,
    ⟨some 17, none, .call n_crc_Table_More [.k 14, .k 15, .k 16], [], 0⟩,
    ⟨some 5, none, .mv (.k 17), [], 0⟩] false [0, 5, 8, 9, 10] [])))
  (.reg [] [⟨some 18, none, .bin .add (.k 10) (.c (.i .i64 1)), [], 0⟩,
    ⟨some 10, none, .mv (.k 18), [], 0⟩] false [0, 5, 8, 9, 10] [])))))))
  (.seq (.reg [] [⟨some 19, none, .mv (.k 5), [], 0⟩,
    ⟨some 4, none, .mv (.k 19), [], 0⟩] false [4] [])
  .ret))))⟩

def F_crc_Table_Seal : F := ⟨2, [.inl 4],
  (.seq (.reg [] [⟨some 4, none, .mv (.c (.s ⟨#[]⟩)), [], 0⟩] false [0, 1] [])
  (.seq (.reg [] [⟨some 5, none, .mv (.t 1), [], 0⟩,
    ⟨some 6, none, .cv .bytes (.k 5), [], 1⟩,
    ⟨some 7, none, .mv (.k 0), [], 0⟩,
    ⟨some 8, none, .mv (.k 1), [], 0⟩,
    ⟨some 9, none, .bs 1 1 (.s ⟨#[]⟩) [(0, .k 8)], [], 2⟩,
    ⟨some 10, none, .call n_crc_Table_Sum [.k 7, .k 9], [], 0⟩,
    ⟨some 11, none, .call n_octet_Word [.k 6, .k 10], [], 0⟩,
    ⟨some 12, none, .cv .str (.k 11), [], 0⟩,
    ⟨some 4, none, .mv (.k 12), [], 0⟩] false [4] [])
  .ret))⟩

def F_c_law03_F : F := ⟨1, [.inl 2],
  (.seq (.reg [] [⟨some 2, none, .mv (.c (.f .f64 0)), [], 0⟩] false [0] [])
  (.seq (.reg [] [⟨some 3, none, .mv (.k 0), [], 0⟩,
    ⟨some 4, none, .frbits (.k 3), [], 0⟩,
    ⟨some 2, none, .mv (.k 4), [], 0⟩] false [2] [])
  .ret))⟩

def F_real_Canon : F := ⟨1, [.inl 2],
  (.seq (.reg [] [⟨some 2, none, .mv (.c (.f .f64 0)), [], 0⟩] false [0] [])
  (.seq (.seq (.reg [] [⟨some 3, none, .mv (.t 0), [], 0⟩,
    ⟨some 4, none, .mv (.t 0), [], 0⟩,
    ⟨some 5, none, .bin .neq (.k 3) (.k 4), [], 0⟩] false [0, 5] [])
  (.cond 5 (.seq (.reg [] [⟨some 6, none, .frbits (.c (.i .u64 9221120237041090560)), [], 0⟩,
    ⟨some 2, none, .mv (.k 6), [], 0⟩] false [2] [])
  .ret)
  .skip))
  (.seq (.reg [] [⟨some 7, none, .mv (.k 0), [], 0⟩,
    ⟨some 2, none, .mv (.k 7), [], 0⟩] false [2] [])
  .ret)))⟩

def F_c_ref03_Cmp : F := ⟨2, [.inl 4],
  (.seq (.reg [] [⟨some 4, none, .mv (.c (.i .i64 0)), [], 0⟩] false [0, 1] [])
  (.seq (.seq (.reg [] [⟨some 5, none, .mv (.t 0), [], 0⟩,
    ⟨some 6, none, .call n_c_ref03_Key [.k 5], [], 0⟩,
    ⟨some 7, none, .mv (.t 1), [], 0⟩,
    ⟨some 8, none, .call n_c_ref03_Key [.k 7], [], 0⟩,
    ⟨some 9, none, .bin .lss (.k 6) (.k 8), [], 0⟩] false [0, 1, 9] [])
  (.cond 9 (.seq (.reg [] [⟨some 4, none, .mv (.c (.i .i64 (-1))), [], 0⟩] false [4] [])
  .ret)
  .skip))
  (.seq (.seq (.reg [] [⟨some 10, none, .mv (.k 0), [], 0⟩,
    ⟨some 11, none, .call n_c_ref03_Key [.k 10], [], 0⟩,
    ⟨some 12, none, .mv (.k 1), [], 0⟩,
    ⟨some 13, none, .call n_c_ref03_Key [.k 12], [], 0⟩,
    ⟨some 14, none, .bin .gtr (.k 11) (.k 13), [], 0⟩] false [14] [])
  (.cond 14 (.seq (.reg [] [⟨some 4, none, .mv (.c (.i .i64 1)), [], 0⟩] false [4] [])
  .ret)
  .skip))
  (.seq (.reg [] [⟨some 4, none, .mv (.c (.i .i64 0)), [], 0⟩] false [4] [])
  .ret))))⟩

def F_c_ref03_Bits : F := ⟨1, [.inl 2],
  (.seq (.reg [] [⟨some 2, none, .mv (.c (.i .u64 0)), [], 0⟩] false [0] [])
  (.seq (.seq (.reg [] [⟨some 3, none, .mv (.t 0), [], 0⟩,
    ⟨some 4, none, .bin .rem (.k 3) (.c (.i .u64 9223372036854775808)), [], 0⟩,
    ⟨some 5, none, .bin .gtr (.k 4) (.c (.i .u64 9218868437227405312)), [], 0⟩] false [0, 5] [])
  (.cond 5 (.seq (.reg [] [⟨some 2, none, .mv (.c (.i .u64 9221120237041090560)), [], 0⟩] false [2] [])
  .ret)
  .skip))
  (.seq (.reg [] [⟨some 6, none, .mv (.k 0), [], 0⟩,
    ⟨some 2, none, .mv (.k 6), [], 0⟩] false [2] [])
  .ret)))⟩

def F_octet_In_Byte : F := ⟨1, [.inl 2],
  (.seq (.reg [] [⟨some 2, none, .mv (.c (.i .u8 0)), [], 0⟩] false [0] [])
  (.seq (.reg [] [⟨some 4, none, .mv (.k 0), [], 0⟩,
    ⟨some 5, none, .call n_octet_In_Bytes [.k 4, .c (.i .i64 1)], [], 0⟩,
    ⟨some 3, none, .mv (.k 5), [], 0⟩] false [3] [])
  (.seq (.seq (.reg [] [⟨some 6, none, .mv (.t 3), [], 0⟩,
    ⟨some 7, none, .bin .eql (.k 6) (.c (.s ⟨#[]⟩)), [], 0⟩] false [3, 7] [])
  (.cond 7 (.seq (.reg [] [⟨some 2, none, .mv (.c (.i .u8 0)), [], 0⟩] false [2] [])
  .ret)
  .skip))
  (.seq (.reg [] [⟨some 8, none, .mv (.k 3), [], 0⟩,
    ⟨some 9, none, .ixs (.k 8) (.c (.i .i64 0)), [], 0⟩,
    ⟨some 2, none, .mv (.k 9), [], 0⟩] false [2] [])
  .ret))))⟩

def F_octet_In_fail : F := ⟨2, [],
  (.reg [] [⟨some 4, none, .mv (.t 0), [], 0⟩,
    ⟨some 5, none, .mv (.k 0), [], 0⟩,
    ⟨some 6, none, .mv (.k 1), [], 0⟩,
    ⟨some 7, none, .nc (.k 4), [], 0⟩,
    ⟨some 8, none, .fa 0 (.k 7), [], 0⟩,
    ⟨none, none, .st 1 (.k 8) (.c (.s ⟨#[]⟩)), [], 0⟩,
    ⟨some 9, none, .nc (.k 5), [], 0⟩,
    ⟨some 10, none, .fa 1 (.k 9), [], 0⟩,
    ⟨none, none, .st 1 (.k 10) (.k 6), [], 0⟩] false [] [])⟩

def F_section_take : F := ⟨1, [.inl 2, .inl 3],
  (.seq (.reg [] [⟨some 2, none, .mv (.c (.l .o 2 [])), [], 0⟩,
    ⟨some 3, none, .mv (.c (.i .i64 0)), [], 0⟩] false [0] [])
  (.seq (.reg [] [⟨some 11, none, .mv (.t 0), [], 0⟩,
    ⟨some 12, none, .call n_octet_In_Num [.k 11, .c (.i .u64 1000)], [], 0⟩,
    ⟨some 4, none, .mv (.k 12), [], 0⟩] false [0, 4] [])
  (.seq (.reg [] [⟨some 5, none, .mv (.c (.l .o 2 [])), [], 0⟩] false [0, 4, 5] [])
  (.seq (.seq (.reg [] [⟨some 13, none, .mv (.k 4), [], 0⟩,
    ⟨some 14, none, .mv (.c (.i .u64 0)), [], 0⟩] false [0, 5, 13, 14] [])
  (.blk 0 (.loop (.seq (.reg [] [⟨some 15, none, .bin .lss (.t 14) (.t 13), [], 0⟩] false [0, 5, 13, 14, 15] [])
  (.seq (.cond 15 .skip
  (.exit 0))
  (.seq (.blk 1 (.seq (.reg [] [⟨some 16, none, .mv (.t 0), [], 0⟩,
    ⟨some 17, none, .call n_octet_In_Long [.k 16], [], 0⟩,
    ⟨some 6, none, .mv (.k 17), [], 0⟩] false [0, 5, 6, 13, 14] [])
  (.seq (.reg [] [⟨some 18, none, .mv (.t 0), [], 0⟩,
    ⟨some 19, none, .call n_octet_In_Int [.k 18], [], 0⟩,
    ⟨some 7, none, .mv (.k 19), [], 0⟩] false [0, 5, 6, 7, 13, 14] [])
  (.seq (.seq (.reg [] [⟨some 20, none, .mv (.t 0), [], 0⟩,
    ⟨some 21, none, .call n_octet_In_Err [.k 20], [], 0⟩,
    ⟨some 8, none, .mv (.k 21), [], 0⟩] false [0, 5, 6, 7, 8, 13, 14] [])
  (.seq (.reg [] [⟨some 22, none, .mv (.t 8), [], 0⟩,
    ⟨some 23, none, .bin .neq (.k 22) (.c (.i .i64 0)), [], 0⟩] false [0, 5, 6, 7, 8, 13, 14, 23] [])
  (.cond 23 (.seq (.reg [] [⟨some 24, none, .mv (.k 8), [], 0⟩,
    ⟨some 2, none, .mv (.c (.l .o 2 [])), [], 0⟩,
    ⟨some 3, none, .mv (.k 24), [], 0⟩] false [2, 3] [])
  .ret)
  .skip)))
  (.seq (.reg [] [⟨some 26, none, .mv (.k 6), [], 0⟩,
    ⟨some 27, none, .call n_real_Back [.k 26], [], 0⟩,
    ⟨some 25, none, .mv (.k 27), [], 0⟩,
    ⟨some 28, none, .ex false 0 25, [], 0⟩,
    ⟨some 29, none, .ex false 1 25, [], 0⟩,
    ⟨some 9, none, .mv (.k 28), [], 0⟩,
    ⟨some 10, none, .mv (.k 29), [], 0⟩] false [0, 5, 7, 9, 10, 13, 14] [])
  (.seq (.seq (.reg [] [⟨some 30, none, .mv (.k 10), [], 0⟩,
    ⟨some 31, none, .un .not (.k 30), [], 0⟩] false [0, 5, 7, 9, 13, 14, 31] [])
  (.cond 31 (.seq (.reg [] [⟨some 2, none, .mv (.c (.l .o 2 [])), [], 0⟩,
    ⟨some 3, none, .mv (.c (.i .i64 2)), [], 0⟩] false [2, 3] [])
  .ret)
  .skip))
  (.reg [] [⟨some 32, none, .mv (.k 5), [], 0⟩,
    ⟨some 33, none, .mv (.k 9), [], 0⟩,
    ⟨some 34, none, .mv (.k 7), [], 0⟩,
    ⟨some 35, none, .bd ([.f .f64 0, .i .i64 0]) [(0, 1, .k 33), (1, 1, .k 34)], [], 0⟩,
    ⟨some 36, none, .bs 2 1 (.a ([.f .f64 0, .i .i64 0])) [(0, .k 35)], [], 0⟩,
    ⟨some 37, none, .app 2 16 (.k 32) (.k 36), [], 1⟩,
    ⟨some 5, none, .mv (.k 37), [], 0⟩] false [0, 5, 13, 14] [])))))))
  (.reg [] [⟨some 38, none, .bin .add (.k 14) (.c (.i .u64 1)), [], 0⟩,
    ⟨some 14, none, .mv (.k 38), [], 0⟩] false [0, 5, 13, 14] [])))))))
  (.seq (.reg [] [⟨some 39, none, .mv (.k 5), [], 0⟩,
    ⟨some 40, none, .mv (.k 0), [], 0⟩,
    ⟨some 41, none, .call n_octet_In_Err [.k 40], [], 0⟩,
    ⟨some 2, none, .mv (.k 39), [], 0⟩,
    ⟨some 3, none, .mv (.k 41), [], 0⟩] false [2, 3] [])
  .ret)))))⟩

def F_c_ref01_fail : F := ⟨1, [.inr (2, true, 2)],
  (.seq (.reg [] [⟨some 2, none, .al ([.s ⟨#[]⟩, .i .i64 0]), [], 0⟩] false [0, 2] [2])
  (.seq (.reg [] [⟨some 3, none, .mv (.k 0), [], 0⟩,
    ⟨some 4, none, .bd ([.s ⟨#[]⟩, .i .i64 0]) [(0, 1, .c (.s ⟨#[]⟩)), (1, 1, .k 3)], [], 0⟩,
    ⟨none, none, .st 2 (.t 2) (.k 4), [], 0⟩] false [2] [2])
  .ret))⟩

def F_c_ref01_Whole : F := ⟨2, [.inr (4, true, 2), .inl 5],
  (.seq (.reg [] [⟨some 2, none, .bx (.k 0), [], 0⟩,
    ⟨some 4, none, .al ([.s ⟨#[]⟩, .i .i64 0]), [], 0⟩,
    ⟨some 5, none, .mv (.c (.i .u64 0)), [], 0⟩] false [1, 2, 4] [2, 4])
  (.seq (.reg [] [⟨some 11, none, .ld true 2 .cp (.k 2), [], 0⟩,
    ⟨some 12, none, .mv (.k 1), [], 0⟩,
    ⟨some 13, none, .call n_c_ref01_Bytes [.k 11, .k 12], [], 0⟩,
    ⟨some 10, none, .mv (.k 13), [], 0⟩,
    ⟨some 14, none, .ex false 0 10, [], 0⟩,
    ⟨some 15, none, .ex false 1 10, [], 0⟩,
    ⟨some 6, none, .al ([.s ⟨#[]⟩, .i .i64 0]), [], 0⟩,
    ⟨none, none, .st 2 (.t 6) (.k 14), [], 0⟩,
    ⟨some 7, none, .mv (.k 15), [], 0⟩] false [4, 6, 7] [4, 6])
  (.seq (.reg [] [⟨some 8, none, .mv (.c (.i .u64 0)), [], 0⟩] false [4, 6, 7, 8] [4, 6])
  (.seq (.seq (.reg [] [⟨some 16, none, .mv (.t 7), [], 0⟩,
    ⟨some 17, none, .len true (.k 16), [], 0⟩,
    ⟨some 18, none, .bin .sub (.k 17) (.c (.i .i64 1)), [], 0⟩,
    ⟨some 9, none, .mv (.k 18), [], 0⟩] false [4, 6, 7, 8, 9] [4, 6])
  (.blk 0 (.loop (.seq (.seq (.reg [] [⟨some 19, none, .mv (.t 9), [], 0⟩,
    ⟨some 20, none, .bin .geq (.k 19) (.c (.i .i64 0)), [], 0⟩] false [4, 6, 7, 8, 9, 20] [4, 6])
  (.cond 20 .skip
  (.exit 0)))
  (.seq (.blk 1 (.reg [] [⟨some 23, none, .mv (.k 8), [], 0⟩,
    ⟨some 24, none, .bin .mul (.k 23) (.c (.i .u64 256)), [], 0⟩,
    ⟨some 25, none, .mv (.t 7), [], 0⟩,
    ⟨some 26, none, .mv (.t 9), [], 0⟩,
    ⟨some 27, none, .ixs (.k 25) (.k 26), [], 0⟩,
    ⟨some 28, none, .cv (.int .u64) (.k 27), [], 0⟩,
    ⟨some 29, none, .bin .add (.k 24) (.k 28), [], 0⟩,
    ⟨some 8, none, .mv (.k 29), [], 0⟩] false [4, 6, 7, 8, 9] [4, 6]))
  (.reg [] [⟨some 21, none, .mv (.k 9), [], 0⟩,
    ⟨some 22, none, .bin .sub (.k 21) (.c (.i .i64 1)), [], 0⟩,
    ⟨some 9, none, .mv (.k 22), [], 0⟩] false [4, 6, 7, 8, 9] [4, 6]))))))
  (.seq (.reg [] [⟨some 30, none, .ld true 2 .cp (.k 6), [], 0⟩,
    ⟨some 31, none, .mv (.k 8), [], 0⟩,
    ⟨none, none, .st 2 (.t 4) (.k 30), [], 0⟩,
    ⟨some 5, none, .mv (.k 31), [], 0⟩] false [4, 5] [4])
  .ret)))))⟩

def F_c_ref01_Signed : F := ⟨1, [.inr (2, true, 2), .inl 3],
  (.seq (.reg [] [⟨some 1, none, .bx (.k 0), [], 0⟩,
    ⟨some 2, none, .al ([.s ⟨#[]⟩, .i .i64 0]), [], 0⟩,
    ⟨some 3, none, .mv (.c (.i .i64 0)), [], 0⟩] false [1, 2] [1, 2])
  (.seq (.reg [] [⟨some 7, none, .ld true 2 .cp (.k 1), [], 0⟩,
    ⟨some 8, none, .call n_c_ref01_Number [.k 7, .c (.i .u64 18446744073709551615)], [], 0⟩,
    ⟨some 6, none, .mv (.k 8), [], 0⟩,
    ⟨some 9, none, .ex false 0 6, [], 0⟩,
    ⟨some 10, none, .ex false 1 6, [], 0⟩,
    ⟨some 4, none, .al ([.s ⟨#[]⟩, .i .i64 0]), [], 0⟩,
    ⟨none, none, .st 2 (.t 4) (.k 9), [], 0⟩,
    ⟨some 5, none, .mv (.k 10), [], 0⟩] false [2, 4, 5] [2, 4])
  (.seq (.seq (.reg [] [⟨some 11, none, .mv (.t 5), [], 0⟩,
    ⟨some 12, none, .bin .rem (.k 11) (.c (.i .u64 2)), [], 0⟩,
    ⟨some 13, none, .bin .eql (.k 12) (.c (.i .u64 1)), [], 0⟩] false [2, 4, 5, 13] [2, 4])
  (.cond 13 (.seq (.reg [] [⟨some 14, none, .ld true 2 .cp (.k 4), [], 0⟩,
    ⟨some 15, none, .mv (.k 5), [], 0⟩,
    ⟨some 16, none, .bin .quo (.k 15) (.c (.i .u64 2)), [], 0⟩,
    ⟨some 17, none, .cv (.int .i64) (.k 16), [], 0⟩,
    ⟨some 18, none, .un .neg (.k 17), [], 0⟩,
    ⟨some 19, none, .bin .sub (.k 18) (.c (.i .i64 1)), [], 0⟩,
    ⟨none, none, .st 2 (.t 2) (.k 14), [], 0⟩,
    ⟨some 3, none, .mv (.k 19), [], 0⟩] false [2, 3] [2])
  .ret)
  .skip))
  (.seq (.reg [] [⟨some 20, none, .ld true 2 .cp (.k 4), [], 0⟩,
    ⟨some 21, none, .mv (.k 5), [], 0⟩,
    ⟨some 22, none, .bin .quo (.k 21) (.c (.i .u64 2)), [], 0⟩,
    ⟨some 23, none, .cv (.int .i64) (.k 22), [], 0⟩,
    ⟨none, none, .st 2 (.t 2) (.k 20), [], 0⟩,
    ⟨some 3, none, .mv (.k 23), [], 0⟩] false [2, 3] [2])
  .ret))))⟩

def F_c_ref19_float : F := ⟨1, [.inl 2, .inl 3],
  (.seq (.reg [] [⟨some 2, none, .mv (.c (.i .u64 0)), [], 0⟩,
    ⟨some 3, none, .mv (.c (.b false)), [], 0⟩] false [0] [])
  (.seq (.reg [] [⟨some 5, none, .mv (.t 0), [], 0⟩,
    ⟨some 6, none, .bin .sub (.k 5) (.c (.i .u64 9223372036854775808)), [], 0⟩,
    ⟨some 4, none, .mv (.k 6), [], 0⟩] false [0, 4] [])
  (.seq (.seq (.reg [] [⟨some 7, none, .mv (.t 0), [], 0⟩,
    ⟨some 8, none, .bin .lss (.k 7) (.c (.i .u64 9223372036854775808)), [], 0⟩] false [0, 4, 8] [])
  (.cond 8 (.reg [] [⟨some 9, none, .mv (.t 0), [], 0⟩,
    ⟨some 10, none, .bin .sub (.c (.i .u64 18446744073709551615)) (.k 9), [], 0⟩,
    ⟨some 4, none, .mv (.k 10), [], 0⟩] false [0, 4] [])
  .skip))
  (.seq (.reg [] [⟨some 11, none, .mv (.t 4), [], 0⟩,
    ⟨some 12, none, .mv (.t 4), [], 0⟩,
    ⟨some 13, none, .call n_c_ref03_Key [.k 12], [], 0⟩,
    ⟨some 14, none, .mv (.k 0), [], 0⟩,
    ⟨some 15, none, .bin .eql (.k 13) (.k 14), [], 0⟩,
    ⟨some 16, none, .mv (.k 15), [], 0⟩,
    ⟨some 17, some (16, true), .mv (.t 4), [], 0⟩,
    ⟨some 18, some (16, true), .call n_c_ref03_Bits [.k 17], [], 0⟩,
    ⟨some 19, some (16, true), .mv (.k 4), [], 0⟩,
    ⟨some 20, some (16, true), .bin .eql (.k 18) (.k 19), [], 0⟩,
    ⟨some 21, none, .pick (.k 16) (.k 20) (.c (.b false)), [], 0⟩,
    ⟨some 2, none, .mv (.k 11), [], 0⟩,
    ⟨some 3, none, .mv (.k 21), [], 0⟩] false [2, 3] [])
  .ret))))⟩

def F_c_law04_Is : F := ⟨2, [.inl 4],
  (.seq (.reg [] [⟨some 2, none, .bx (.k 0), [], 0⟩,
    ⟨some 3, none, .bx (.k 1), [], 0⟩,
    ⟨some 4, none, .mv (.c (.i .i64 0)), [], 0⟩] false [2, 3] [2, 3])
  (.seq (.seq (.reg [] [⟨some 5, none, .fa 0 (.t 2), [], 0⟩,
    ⟨some 6, none, .ld false 1 .cp (.k 5), [], 0⟩,
    ⟨some 7, none, .bits (.k 6), [], 0⟩,
    ⟨some 8, none, .fa 0 (.t 3), [0, 1, 2], 0⟩,
    ⟨some 9, none, .ld false 1 .cp (.k 8), [0, 1, 2], 0⟩,
    ⟨some 10, none, .bin .neq (.k 7) (.k 9), [], 0⟩,
    ⟨some 11, none, .mv (.k 10), [], 0⟩,
    ⟨some 12, some (11, false), .fa 1 (.t 2), [], 0⟩,
    ⟨some 13, some (11, false), .ld false 1 .cp (.k 12), [], 0⟩,
    ⟨some 14, some (11, false), .fa 1 (.t 3), [7, 8], 0⟩,
    ⟨some 15, some (11, false), .ld false 1 .cp (.k 14), [7, 8], 0⟩,
    ⟨some 16, some (11, false), .bin .neq (.k 13) (.k 15), [], 0⟩,
    ⟨some 17, none, .pick (.t 11) (.c (.b true)) (.k 16), [], 0⟩] true [17] [])
  (.cond 17 (.seq (.reg [] [⟨some 4, none, .mv (.c (.i .i64 (-1))), [], 0⟩] false [4] [])
  .ret)
  .skip))
  (.seq (.reg [] [⟨some 4, none, .mv (.c (.i .i64 0)), [], 0⟩] false [4] [])
  .ret)))⟩

def F_pile_New : F := ⟨1, [.inl 2],
  (.seq (.reg [.zz 0] [⟨some 2, none, .mv (.c (.nilp)), [], 0⟩] false [0] [])
  (.seq (.reg [] [⟨some 6, none, .bd ([.l .x 2 []]) [], [], 0⟩,
    ⟨some 7, none, .bg (.k 6), [], 0⟩,
    ⟨some 3, none, .mv (.k 7), [], 0⟩] false [0, 3] [])
  (.seq (.seq (.reg [] [⟨some 8, none, .mv (.k 0), [], 0⟩,
    ⟨some 9, none, .len false (.t 8), [], 0⟩,
    ⟨some 10, none, .mv (.c (.i .i64 0)), [], 0⟩] false [3, 8, 9, 10] [])
  (.blk 0 (.loop (.seq (.reg [] [⟨some 11, none, .bin .lss (.t 10) (.t 9), [], 0⟩] false [3, 8, 9, 10, 11] [])
  (.seq (.cond 11 .skip
  (.exit 0))
  (.seq (.blk 1 (.seq (.reg [] [⟨some 12, none, .ia 2 none (.t 8) (.t 10), [], 0⟩,
    ⟨some 13, none, .ld true 2 .cp (.k 12), [], 0⟩,
    ⟨some 5, none, .al ([.f .f64 0, .i .i64 0]), [], 0⟩,
    ⟨none, none, .st 2 (.t 5) (.k 13), [], 0⟩] false [3, 5, 8, 9, 10] [5])
  (.reg [] [⟨some 14, none, .mv (.t 3), [], 0⟩,
    ⟨some 15, none, .mv (.t 3), [0], 0⟩,
    ⟨some 16, none, .nc (.k 15), [0], 0⟩,
    ⟨some 17, none, .fa 0 (.k 16), [0], 0⟩,
    ⟨some 18, none, .ld false 1 .tk (.k 17), [0], 0⟩,
    ⟨some 19, none, .ld true 2 .cp (.k 5), [0, 1, 2, 3, 4], 0⟩,
    ⟨some 20, none, .callp n_pile_Item_Canon [.k 19], [0, 1, 2, 3, 4], 0⟩,
    ⟨some 21, none, .bs 2 1 (.a ([.f .f64 0, .i .i64 0])) [(0, .k 20)], [0, 1, 2, 3, 4], 0⟩,
    ⟨some 22, none, .app 2 16 (.k 18) (.k 21), [0], 0⟩,
    ⟨some 23, none, .nc (.k 14), [], 0⟩,
    ⟨some 24, none, .fa 0 (.k 23), [], 0⟩,
    ⟨none, none, .st 1 (.k 24) (.k 22), [], 0⟩] true [3, 8, 9, 10] [])))
  (.reg [] [⟨some 25, none, .bin .add (.k 10) (.c (.i .i64 1)), [], 0⟩,
    ⟨some 10, none, .mv (.k 25), [], 0⟩] false [3, 8, 9, 10] [])))))))
  (.seq (.reg [] [⟨some 26, none, .mv (.t 3), [], 0⟩,
    ⟨some 27, none, .nc (.k 26), [], 0⟩,
    ⟨some 28, none, .fa 0 (.k 27), [], 0⟩,
    ⟨some 29, none, .mi t_pile_items_u (.k 28), [], 0⟩,
    ⟨some 30, none, .call n_container_heap_Init [.k 29], [], 0⟩] false [3] [])
  (.seq (.reg [] [⟨some 31, none, .mv (.k 3), [], 0⟩,
    ⟨some 2, none, .mv (.k 31), [], 0⟩] false [2] [])
  .ret)))))⟩

def F_pile_Pile_All : F := ⟨1, [.inl 2],
  (.seq (.reg [] [⟨some 2, none, .mv (.c (.l .o 2 [])), [], 0⟩] false [0] [])
  (.seq (.reg [] [⟨some 7, none, .bs 2 0 (.a ([.f .f64 0, .i .i64 0])) [], [], 0⟩,
    ⟨some 8, none, .mv (.k 0), [], 0⟩,
    ⟨some 9, none, .nc (.k 8), [], 0⟩,
    ⟨some 10, none, .fa 0 (.k 9), [], 0⟩,
    ⟨some 11, none, .lda 1 (.k 10), [], 1⟩,
    ⟨some 12, none, .app 2 16 (.k 7) (.k 11), [], 0⟩,
    ⟨some 13, none, .bd ([.l .x 2 []]) [(0, 1, .k 12)], [], 0⟩,
    ⟨some 14, none, .bg (.k 13), [], 0⟩,
    ⟨some 3, none, .mv (.k 14), [], 0⟩] false [3] [])
  (.seq (.reg [] [⟨some 4, none, .mv (.c (.l .o 2 [])), [], 0⟩] false [3, 4] [])
  (.blk 0 (.loop (.blk 1 (.seq (.reg [] [⟨some 16, none, .mv (.t 3), [], 0⟩,
    ⟨some 17, none, .call n_pile_Pile_Take [.k 16], [], 0⟩,
    ⟨some 15, none, .mv (.k 17), [], 0⟩,
    ⟨some 18, none, .ex false 0 15, [], 0⟩,
    ⟨some 19, none, .ex false 1 15, [], 0⟩,
    ⟨some 5, none, .al ([.f .f64 0, .i .i64 0]), [], 0⟩,
    ⟨none, none, .st 2 (.t 5) (.k 18), [], 0⟩,
    ⟨some 6, none, .mv (.k 19), [], 0⟩] false [3, 4, 5, 6] [5])
  (.seq (.seq (.reg [] [⟨some 20, none, .mv (.k 6), [], 0⟩,
    ⟨some 21, none, .un .not (.k 20), [], 0⟩] false [3, 4, 5, 21] [5])
  (.cond 21 (.seq (.reg [] [⟨some 22, none, .mv (.k 4), [], 0⟩,
    ⟨some 2, none, .mv (.k 22), [], 0⟩] false [2] [])
  .ret)
  .skip))
  (.reg [] [⟨some 23, none, .mv (.k 4), [], 0⟩,
    ⟨some 24, none, .ld true 2 .cp (.k 5), [], 0⟩,
    ⟨some 25, none, .bs 2 1 (.a ([.f .f64 0, .i .i64 0])) [(0, .k 24)], [], 0⟩,
    ⟨some 26, none, .app 2 16 (.k 23) (.k 25), [], 1⟩,
    ⟨some 4, none, .mv (.k 26), [], 0⟩] false [3, 4] [])))))))))⟩

def F_real_Cmp : F := ⟨2, [.inl 4],
  (.seq (.reg [] [⟨some 4, none, .mv (.c (.i .i64 0)), [], 0⟩] false [0, 1] [])
  (.seq (.reg [] [⟨some 7, none, .mv (.k 0), [], 0⟩,
    ⟨some 8, none, .call n_real_Key [.k 7], [], 0⟩,
    ⟨some 9, none, .mv (.k 1), [], 0⟩,
    ⟨some 10, none, .call n_real_Key [.k 9], [], 0⟩,
    ⟨some 5, none, .mv (.k 8), [], 0⟩,
    ⟨some 6, none, .mv (.k 10), [], 0⟩] false [5, 6] [])
  (.seq (.blk 0 (.seq (.reg [] [⟨some 12, none, .mv (.t 5), [], 0⟩,
    ⟨some 13, none, .mv (.t 6), [], 0⟩,
    ⟨some 14, none, .bin .lss (.k 12) (.k 13), [], 0⟩,
    ⟨some 11, none, .mv (.k 14), [], 0⟩] false [5, 6, 11] [])
  (.cond 11 (.seq (.reg [] [⟨some 4, none, .mv (.c (.i .i64 (-1))), [], 0⟩] false [4] [])
  .ret)
  (.seq (.reg [] [⟨some 16, none, .mv (.k 5), [], 0⟩,
    ⟨some 17, none, .mv (.k 6), [], 0⟩,
    ⟨some 18, none, .bin .gtr (.k 16) (.k 17), [], 0⟩,
    ⟨some 15, none, .mv (.k 18), [], 0⟩] false [15] [])
  (.cond 15 (.seq (.reg [] [⟨some 4, none, .mv (.c (.i .i64 1)), [], 0⟩] false [4] [])
  .ret)
  .skip)))))
  (.seq (.reg [] [⟨some 4, none, .mv (.c (.i .i64 0)), [], 0⟩] false [4] [])
  .ret))))⟩

def F_octet_fixed_uint64 : F := ⟨3, [.inl 6],
  (.seq (.reg [] [⟨some 6, none, .mv (.c (.l .o 1 [])), [], 0⟩] false [0, 1, 2] [])
  (.seq (.seq (.reg [] [⟨some 7, none, .mv (.k 2), [], 0⟩,
    ⟨some 8, none, .mv (.c (.i .i64 0)), [], 0⟩] false [0, 1, 7, 8] [])
  (.blk 0 (.loop (.seq (.reg [] [⟨some 9, none, .bin .lss (.t 8) (.t 7), [], 0⟩] false [0, 1, 7, 8, 9] [])
  (.seq (.cond 9 .skip
  (.exit 0))
  (.seq (.blk 1 (.seq (.reg [] [⟨some 10, none, .mv (.k 0), [], 0⟩,
    ⟨some 11, none, .mv (.t 1), [], 0⟩,
    ⟨some 12, none, .cv (.int .u8) (.k 11), [], 0⟩,
    ⟨some 13, none, .bs 1 1 (.i .u8 0) [(0, .k 12)], [], 0⟩,
    ⟨some 14, none, .app 1 1 (.k 10) (.k 13), [], 1⟩,
    ⟨some 0, none, .mv (.k 14), [], 0⟩] false [0, 1, 7, 8] [])
  (.reg [] [⟨some 15, none, .mv (.k 1), [], 0⟩,
    ⟨some 16, none, .bin .shr (.k 15) (.c (.i .u64 8)), [], 0⟩,
    ⟨some 1, none, .mv (.k 16), [], 0⟩] false [0, 1, 7, 8] [])))
  (.reg [] [⟨some 17, none, .bin .add (.k 8) (.c (.i .i64 1)), [], 0⟩,
    ⟨some 8, none, .mv (.k 17), [], 0⟩] false [0, 1, 7, 8] [])))))))
  (.seq (.reg [] [⟨some 18, none, .mv (.k 0), [], 0⟩,
    ⟨some 6, none, .mv (.k 18), [], 0⟩] false [6] [])
  .ret)))⟩

def F_elder_one : F := ⟨1, [.inl 2],
  (.seq (.reg [.zz 0] [⟨some 1, none, .bx (.k 0), [], 0⟩,
    ⟨some 2, none, .mv (.c (.l .o 1 [])), [], 0⟩] false [1] [1])
  (.seq (.reg [] [⟨some 7, none, .fa 1 (.t 1), [], 0⟩,
    ⟨some 8, none, .ld false 1 .cp (.k 7), [], 0⟩,
    ⟨some 9, none, .cv (.int .u64) (.k 8), [], 0⟩,
    ⟨some 10, none, .call n_octet_Num [.c (.l .o 1 []), .k 9], [], 0⟩,
    ⟨some 3, none, .mv (.k 10), [], 0⟩] false [1, 3] [1])
  (.seq (.reg [] [⟨some 11, none, .ld true 5 .cp (.t 1), [], 2⟩,
    ⟨some 12, none, .call n_image_Image_Value [.k 11], [], 0⟩,
    ⟨some 4, none, .al ([.i .i64 0, .l .o 2 [], .i .i64 0]), [], 0⟩,
    ⟨none, none, .st 3 (.t 4) (.k 12), [], 0⟩] false [1, 3, 4] [1, 4])
  (.seq (.seq (.reg [] [⟨some 13, none, .fa 0 (.t 1), [], 0⟩,
    ⟨some 14, none, .ld false 1 .cp (.k 13), [], 0⟩,
    ⟨some 15, none, .bin .eql (.k 14) (.c (.i .i64 3)), [], 0⟩,
    ⟨some 16, none, .mv (.k 15), [], 0⟩,
    ⟨some 17, some (16, false), .fa 0 (.k 1), [], 0⟩,
    ⟨some 18, some (16, false), .ld false 1 .cp (.k 17), [], 0⟩,
    ⟨some 19, some (16, false), .bin .eql (.k 18) (.c (.i .i64 4)), [], 0⟩,
    ⟨some 20, none, .pick (.k 16) (.c (.b true)) (.k 19), [], 0⟩] false [3, 4, 20] [4])
  (.cond 20 (.seq (.reg [] [⟨some 21, none, .mv (.k 3), [], 0⟩,
    ⟨some 22, none, .fa 2 (.k 4), [], 0⟩,
    ⟨some 23, none, .ld false 1 .cp (.k 22), [], 0⟩,
    ⟨some 24, none, .cv (.int .u64) (.k 23), [], 0⟩,
    ⟨some 25, none, .call n_octet_Long [.k 21, .k 24], [], 0⟩,
    ⟨some 2, none, .mv (.k 25), [], 0⟩] false [2] [])
  .ret)
  .skip))
  (.seq (.reg [] [⟨some 26, none, .mv (.k 3), [], 0⟩,
    ⟨some 27, none, .fa 1 (.t 4), [], 0⟩,
    ⟨some 28, none, .ld false 1 .cp (.k 27), [], 0⟩,
    ⟨some 29, none, .len false (.k 28), [], 0⟩,
    ⟨some 30, none, .cv (.int .u32) (.k 29), [], 0⟩,
    ⟨some 31, none, .call n_octet_Word [.k 26, .k 30], [], 0⟩,
    ⟨some 3, none, .mv (.k 31), [], 0⟩] false [3, 4] [4])
  (.seq (.seq (.reg [] [⟨some 32, none, .fa 1 (.k 4), [], 0⟩,
    ⟨some 33, none, .ld false 1 .tk (.k 32), [], 0⟩,
    ⟨some 34, none, .len false (.t 33), [], 0⟩,
    ⟨some 35, none, .mv (.c (.i .i64 0)), [], 0⟩] false [3, 33, 34, 35] [])
  (.blk 0 (.loop (.seq (.reg [] [⟨some 36, none, .bin .lss (.t 35) (.t 34), [], 0⟩] false [3, 33, 34, 35, 36] [])
  (.seq (.cond 36 .skip
  (.exit 0))
  (.seq (.blk 1 (.seq (.reg [] [⟨some 37, none, .ia 2 none (.t 33) (.t 35), [], 0⟩,
    ⟨some 38, none, .ld true 2 .cp (.k 37), [], 0⟩,
    ⟨some 6, none, .al ([.f .f64 0, .i .i64 0]), [], 0⟩,
    ⟨none, none, .st 2 (.t 6) (.k 38), [], 0⟩] false [3, 6, 33, 34, 35] [6])
  (.reg [] [⟨some 39, none, .mv (.k 3), [], 0⟩,
    ⟨some 40, none, .ld true 2 .cp (.t 6), [0], 0⟩,
    ⟨some 41, none, .call n_pile_Item_Canon [.k 40], [0], 0⟩,
    ⟨some 42, none, .fd false 0 1 (.k 41), [0], 0⟩,
    ⟨some 43, none, .bits (.k 42), [0], 0⟩,
    ⟨some 44, none, .call n_octet_Long [.k 39, .k 43], [], 0⟩,
    ⟨some 45, none, .fa 1 (.t 6), [0, 1, 2, 3, 4, 5], 0⟩,
    ⟨some 46, none, .ld false 1 .cp (.k 45), [0, 1, 2, 3, 4, 5], 0⟩,
    ⟨some 47, none, .cv (.int .u64) (.k 46), [0, 1, 2, 3, 4, 5], 0⟩,
    ⟨some 48, none, .call n_octet_Long [.k 44, .k 47], [], 0⟩,
    ⟨some 3, none, .mv (.k 48), [], 0⟩] true [3, 33, 34, 35] [])))
  (.reg [] [⟨some 49, none, .bin .add (.k 35) (.c (.i .i64 1)), [], 0⟩,
    ⟨some 35, none, .mv (.k 49), [], 0⟩] false [3, 33, 34, 35] [])))))))
  (.seq (.reg [] [⟨some 50, none, .mv (.k 3), [], 0⟩,
    ⟨some 2, none, .mv (.k 50), [], 0⟩] false [2] [])
  .ret)))))))⟩

def F_elder_two : F := ⟨1, [.inl 2],
  (.seq (.reg [.zz 0] [⟨some 1, none, .bx (.k 0), [], 0⟩,
    ⟨some 2, none, .mv (.c (.l .o 1 [])), [], 0⟩] false [1] [1])
  (.seq (.reg [] [⟨some 10, none, .fa 1 (.t 1), [], 0⟩,
    ⟨some 11, none, .ld false 1 .cp (.k 10), [], 0⟩,
    ⟨some 12, none, .cv (.int .u64) (.k 11), [], 0⟩,
    ⟨some 13, none, .call n_octet_Num [.c (.l .o 1 []), .k 12], [], 0⟩,
    ⟨some 3, none, .mv (.k 13), [], 0⟩] false [1, 3] [1])
  (.seq (.seq (.reg [] [⟨some 14, none, .fa 3 (.t 1), [], 0⟩,
    ⟨some 15, none, .ld false 1 .cp (.k 14), [], 0⟩,
    ⟨some 16, none, .len false (.t 15), [], 0⟩,
    ⟨some 17, none, .mv (.c (.i .i64 0)), [], 0⟩] false [1, 3, 15, 16, 17] [1])
  (.blk 0 (.loop (.seq (.reg [] [⟨some 18, none, .bin .lss (.t 17) (.t 16), [], 0⟩] false [1, 3, 15, 16, 17, 18] [1])
  (.seq (.cond 18 .skip
  (.exit 0))
  (.seq (.blk 1 (.seq (.reg [] [⟨some 19, none, .ia 1 none (.t 15) (.t 17), [], 0⟩,
    ⟨some 20, none, .ld false 1 .cp (.k 19), [], 0⟩,
    ⟨some 5, none, .mv (.k 20), [], 0⟩] false [1, 3, 5, 15, 16, 17] [1])
  (.seq (.reg [] [⟨some 21, none, .mv (.k 3), [], 0⟩,
    ⟨some 22, none, .mv (.t 5), [], 0⟩,
    ⟨some 23, none, .len false (.k 22), [], 0⟩,
    ⟨some 24, none, .cv (.int .u64) (.k 23), [], 0⟩,
    ⟨some 25, none, .call n_octet_Num [.k 21, .k 24], [], 0⟩,
    ⟨some 3, none, .mv (.k 25), [], 0⟩] false [1, 3, 5, 15, 16, 17] [1])
  (.seq (.reg [] [⟨some 26, none, .mv (.k 5), [], 0⟩,
    ⟨some 27, none, .len false (.t 26), [], 0⟩,
    ⟨some 28, none, .mv (.c (.i .i64 0)), [], 0⟩] false [1, 3, 15, 16, 17, 26, 27, 28] [1])
  (.blk 2 (.loop (.seq (.reg [] [⟨some 29, none, .bin .lss (.t 28) (.t 27), [], 0⟩] false [1, 3, 15, 16, 17, 26, 27, 28, 29] [1])
  (.seq (.cond 29 .skip
  (.exit 2))
  (.seq (.blk 3 (.seq (.reg [] [⟨some 30, none, .ia 2 none (.t 26) (.t 28), [], 0⟩,
    ⟨some 31, none, .ld true 2 .cp (.k 30), [], 0⟩,
    ⟨some 7, none, .al ([.f .f64 0, .i .i64 0]), [], 0⟩,
    ⟨none, none, .st 2 (.t 7) (.k 31), [], 0⟩] false [1, 3, 7, 15, 16, 17, 26, 27, 28] [1, 7])
  (.reg [] [⟨some 32, none, .mv (.k 3), [], 0⟩,
    ⟨some 33, none, .ld true 2 .cp (.t 7), [0], 0⟩,
    ⟨some 34, none, .call n_pile_Item_Canon [.k 33], [0], 0⟩,
    ⟨some 35, none, .fd false 0 1 (.k 34), [0], 0⟩,
    ⟨some 36, none, .bits (.k 35), [0], 0⟩,
    ⟨some 37, none, .call n_octet_Long [.k 32, .k 36], [], 0⟩,
    ⟨some 38, none, .fa 1 (.t 7), [0, 1, 2, 3, 4, 5], 0⟩,
    ⟨some 39, none, .ld false 1 .cp (.k 38), [0, 1, 2, 3, 4, 5], 0⟩,
    ⟨some 40, none, .call n_octet_Int [.k 37, .k 39], [], 0⟩,
    ⟨some 3, none, .mv (.k 40), [], 0⟩] true [1, 3, 15, 16, 17, 26, 27, 28] [1])))
  (.reg [] [⟨some 41, none, .bin .add (.k 28) (.c (.i .i64 1)), [], 0⟩,
    ⟨some 28, none, .mv (.k 41), [], 0⟩] false [1, 3, 15, 16, 17, 26, 27, 28] [1]))))))))))
  (.reg [] [⟨some 42, none, .bin .add (.k 17) (.c (.i .i64 1)), [], 0⟩,
    ⟨some 17, none, .mv (.k 42), [], 0⟩] false [1, 3, 15, 16, 17] [1])))))))
  (.seq (.seq (.reg [] [⟨some 43, none, .fa 4 (.k 1), [], 0⟩,
    ⟨some 44, none, .ld false 1 .tk (.k 43), [], 0⟩,
    ⟨some 45, none, .len false (.t 44), [], 0⟩,
    ⟨some 46, none, .mv (.c (.i .i64 0)), [], 0⟩] false [3, 44, 45, 46] [])
  (.blk 4 (.loop (.seq (.reg [] [⟨some 47, none, .bin .lss (.t 46) (.t 45), [], 0⟩] false [3, 44, 45, 46, 47] [])
  (.seq (.cond 47 .skip
  (.exit 4))
  (.seq (.blk 5 (.seq (.reg [] [⟨some 48, none, .ia 1 none (.t 44) (.t 46), [], 0⟩,
    ⟨some 49, none, .ld false 1 .cp (.k 48), [], 0⟩,
    ⟨some 9, none, .mv (.k 49), [], 0⟩] false [3, 9, 44, 45, 46] [])
  (.reg [] [⟨some 50, none, .mv (.k 3), [], 0⟩,
    ⟨some 51, none, .mv (.k 9), [], 0⟩,
    ⟨some 52, none, .cv (.int .u64) (.k 51), [], 0⟩,
    ⟨some 53, none, .call n_octet_Num [.k 50, .k 52], [], 0⟩,
    ⟨some 3, none, .mv (.k 53), [], 0⟩] false [3, 44, 45, 46] [])))
  (.reg [] [⟨some 54, none, .bin .add (.k 46) (.c (.i .i64 1)), [], 0⟩,
    ⟨some 46, none, .mv (.k 54), [], 0⟩] false [3, 44, 45, 46] [])))))))
  (.seq (.reg [] [⟨some 55, none, .mv (.k 3), [], 0⟩,
    ⟨some 2, none, .mv (.k 55), [], 0⟩] false [2] [])
  .ret)))))⟩

def F_elder_three : F := ⟨1, [.inl 2],
  (.seq (.reg [.zz 0] [⟨some 1, none, .bx (.k 0), [], 0⟩,
    ⟨some 2, none, .mv (.c (.l .o 1 [])), [], 0⟩] false [1] [1])
  (.seq (.reg [] [⟨some 9, none, .ld true 5 .tk (.k 1), [], 2⟩,
    ⟨some 10, none, .call n_section_Of [.k 9], [], 0⟩,
    ⟨some 3, none, .mv (.k 10), [], 0⟩] false [3] [])
  (.seq (.reg [] [⟨some 11, none, .mv (.t 3), [], 0⟩,
    ⟨some 12, none, .len false (.k 11), [], 0⟩,
    ⟨some 13, none, .cv (.int .u8) (.k 12), [], 0⟩,
    ⟨some 14, none, .bs 1 1 (.i .u8 0) [(0, .k 13)], [], 1⟩,
    ⟨some 4, none, .mv (.k 14), [], 0⟩] false [3, 4] [])
  (.seq (.seq (.reg [] [⟨some 15, none, .mv (.t 3), [], 0⟩,
    ⟨some 16, none, .len false (.t 15), [], 0⟩,
    ⟨some 17, none, .mv (.c (.i .i64 0)), [], 0⟩] false [3, 4, 15, 16, 17] [])
  (.blk 0 (.loop (.seq (.reg [] [⟨some 18, none, .bin .lss (.t 17) (.t 16), [], 0⟩] false [3, 4, 15, 16, 17, 18] [])
  (.seq (.cond 18 .skip
  (.exit 0))
  (.seq (.blk 1 (.seq (.reg [] [⟨some 19, none, .ia 2 none (.t 15) (.t 17), [], 0⟩,
    ⟨some 20, none, .ld true 2 .cp (.k 19), [], 0⟩,
    ⟨some 6, none, .al ([.i .i64 0, .s ⟨#[]⟩]), [], 0⟩,
    ⟨none, none, .st 2 (.t 6) (.k 20), [], 0⟩] false [3, 4, 6, 15, 16, 17] [6])
  (.reg [] [⟨some 21, none, .mv (.k 4), [], 0⟩,
    ⟨some 22, none, .fa 0 (.t 6), [0], 0⟩,
    ⟨some 23, none, .ld false 1 .cp (.k 22), [0], 0⟩,
    ⟨some 24, none, .cv (.int .u8) (.k 23), [0], 0⟩,
    ⟨some 25, none, .bs 1 1 (.i .u8 0) [(0, .k 24)], [0], 0⟩,
    ⟨some 26, none, .app 1 1 (.k 21) (.k 25), [], 1⟩,
    ⟨some 27, none, .fa 1 (.t 6), [0, 1, 2, 3, 4, 5], 0⟩,
    ⟨some 28, none, .ld false 1 .cp (.k 27), [0, 1, 2, 3, 4, 5], 0⟩,
    ⟨some 29, none, .len true (.k 28), [0, 1, 2, 3, 4, 5], 0⟩,
    ⟨some 30, none, .cv (.int .u32) (.k 29), [0, 1, 2, 3, 4, 5], 0⟩,
    ⟨some 31, none, .call n_octet_Word [.k 26, .k 30], [], 0⟩,
    ⟨some 4, none, .mv (.k 31), [], 0⟩] true [3, 4, 15, 16, 17] [])))
  (.reg [] [⟨some 32, none, .bin .add (.k 17) (.c (.i .i64 1)), [], 0⟩,
    ⟨some 17, none, .mv (.k 32), [], 0⟩] false [3, 4, 15, 16, 17] [])))))))
  (.seq (.seq (.reg [] [⟨some 33, none, .mv (.k 3), [], 0⟩,
    ⟨some 34, none, .len false (.t 33), [], 0⟩,
    ⟨some 35, none, .mv (.c (.i .i64 0)), [], 0⟩] false [4, 33, 34, 35] [])
  (.blk 2 (.loop (.seq (.reg [] [⟨some 36, none, .bin .lss (.t 35) (.t 34), [], 0⟩] false [4, 33, 34, 35, 36] [])
  (.seq (.cond 36 .skip
  (.exit 2))
  (.seq (.blk 3 (.seq (.reg [] [⟨some 37, none, .ia 2 none (.t 33) (.t 35), [], 0⟩,
    ⟨some 38, none, .ld true 2 .cp (.k 37), [], 0⟩,
    ⟨some 8, none, .al ([.i .i64 0, .s ⟨#[]⟩]), [], 0⟩,
    ⟨none, none, .st 2 (.t 8) (.k 38), [], 0⟩] false [4, 8, 33, 34, 35] [8])
  (.reg [] [⟨some 39, none, .mv (.k 4), [], 0⟩,
    ⟨some 40, none, .fa 1 (.k 8), [], 0⟩,
    ⟨some 41, none, .ld false 1 .cp (.k 40), [], 0⟩,
    ⟨some 42, none, .apps (.k 39) (.k 41), [], 1⟩,
    ⟨some 4, none, .mv (.k 42), [], 0⟩] false [4, 33, 34, 35] [])))
  (.reg [] [⟨some 43, none, .bin .add (.k 35) (.c (.i .i64 1)), [], 0⟩,
    ⟨some 35, none, .mv (.k 43), [], 0⟩] false [4, 33, 34, 35] [])))))))
  (.seq (.reg [] [⟨some 44, none, .mv (.k 4), [], 0⟩,
    ⟨some 2, none, .mv (.k 44), [], 0⟩] false [2] [])
  .ret))))))⟩

def F_internal_stringslite_HasPrefix : F := ⟨2, [.inl 4],
  (.seq (.reg [] [⟨some 4, none, .mv (.c (.b false)), [], 0⟩] false [0, 1] [])
  (.seq (.reg [] [⟨some 5, none, .mv (.t 0), [], 0⟩,
    ⟨some 6, none, .len true (.k 5), [], 0⟩,
    ⟨some 7, none, .mv (.t 1), [], 0⟩,
    ⟨some 8, none, .len true (.k 7), [], 0⟩,
    ⟨some 9, none, .bin .geq (.k 6) (.k 8), [], 0⟩,
    ⟨some 10, none, .mv (.k 9), [], 0⟩,
    ⟨some 11, some (10, true), .mv (.k 0), [], 0⟩,
    ⟨some 12, some (10, true), .mv (.t 1), [], 0⟩,
    ⟨some 13, some (10, true), .len true (.k 12), [], 0⟩,
    ⟨some 14, some (10, true), .ss (.k 11) none (some (.k 13)), [], 0⟩,
    ⟨some 15, some (10, true), .mv (.k 1), [], 0⟩,
    ⟨some 16, some (10, true), .bin .eql (.k 14) (.k 15), [], 0⟩,
    ⟨some 17, none, .pick (.k 10) (.k 16) (.c (.b false)), [], 0⟩,
    ⟨some 4, none, .mv (.k 17), [], 0⟩] false [4] [])
  .ret))⟩

def F_c_ref02_Bits : F := ⟨1, [.inl 2],
  (.seq (.reg [] [⟨some 2, none, .mv (.c (.l .x 1 [])), [], 0⟩] false [0] [])
  (.seq (.reg [] [⟨some 7, none, .bs 1 0 (.i .i64 0) [], [], 0⟩,
    ⟨some 3, none, .mv (.k 7), [], 0⟩] false [0, 3] [])
  (.seq (.seq (.reg [] [⟨some 4, none, .mv (.c (.i .i64 0)), [], 0⟩] false [0, 3, 4] [])
  (.blk 0 (.loop (.seq (.seq (.reg [] [⟨some 8, none, .mv (.t 4), [], 0⟩,
    ⟨some 9, none, .mv (.t 0), [], 0⟩,
    ⟨some 10, none, .len true (.k 9), [], 0⟩,
    ⟨some 11, none, .bin .lss (.k 8) (.k 10), [], 0⟩] false [0, 3, 4, 11] [])
  (.cond 11 .skip
  (.exit 0)))
  (.seq (.blk 1 (.seq (.reg [] [⟨some 14, none, .mv (.t 0), [], 0⟩,
    ⟨some 15, none, .mv (.t 4), [], 0⟩,
    ⟨some 16, none, .ixs (.k 14) (.k 15), [], 0⟩,
    ⟨some 17, none, .cv (.int .i64) (.k 16), [], 0⟩,
    ⟨some 5, none, .mv (.k 17), [], 0⟩] false [0, 3, 4, 5] [])
  (.seq (.reg [] [⟨some 6, none, .mv (.c (.i .i64 0)), [], 0⟩] false [0, 3, 4, 5, 6] [])
  (.blk 2 (.loop (.seq (.seq (.reg [] [⟨some 18, none, .mv (.t 6), [], 0⟩,
    ⟨some 19, none, .bin .lss (.k 18) (.c (.i .i64 8)), [], 0⟩] false [0, 3, 4, 5, 6, 19] [])
  (.cond 19 .skip
  (.exit 2)))
  (.seq (.blk 3 (.seq (.reg [] [⟨some 22, none, .mv (.k 3), [], 0⟩,
    ⟨some 23, none, .mv (.t 5), [], 0⟩,
    ⟨some 24, none, .bin .rem (.k 23) (.c (.i .i64 2)), [], 0⟩,
    ⟨some 25, none, .bs 1 1 (.i .i64 0) [(0, .k 24)], [], 0⟩,
    ⟨some 26, none, .app 1 8 (.k 22) (.k 25), [], 0⟩,
    ⟨some 3, none, .mv (.k 26), [], 0⟩] false [0, 3, 4, 5, 6] [])
  (.reg [] [⟨some 27, none, .mv (.k 5), [], 0⟩,
    ⟨some 28, none, .bin .quo (.k 27) (.c (.i .i64 2)), [], 0⟩,
    ⟨some 5, none, .mv (.k 28), [], 0⟩] false [0, 3, 4, 5, 6] [])))
  (.reg [] [⟨some 20, none, .mv (.k 6), [], 0⟩,
    ⟨some 21, none, .bin .add (.k 20) (.c (.i .i64 1)), [], 0⟩,
    ⟨some 6, none, .mv (.k 21), [], 0⟩] false [0, 3, 4, 5, 6] []))))))))
  (.reg [] [⟨some 12, none, .mv (.k 4), [], 0⟩,
    ⟨some 13, none, .bin .add (.k 12) (.c (.i .i64 1)), [], 0⟩,
    ⟨some 4, none, .mv (.k 13), [], 0⟩] false [0, 3, 4] []))))))
  (.seq (.reg [] [⟨some 29, none, .mv (.k 3), [], 0⟩,
    ⟨some 2, none, .mv (.k 29), [], 0⟩] false [2] [])
  .ret))))⟩

def F_c_ref20_number : F := ⟨1, [.inl 2],
  (.seq (.reg [] [⟨some 2, none, .mv (.c (.i .i64 0)), [], 0⟩] false [0] [])
  (.seq (.reg [] [⟨some 3, none, .mv (.t 0), [], 0⟩,
    ⟨some 4, none, .ixs (.k 3) (.c (.i .i64 0)), [], 0⟩,
    ⟨some 5, none, .cv (.int .i64) (.k 4), [], 0⟩,
    ⟨some 6, none, .mv (.t 0), [0, 1, 2], 0⟩,
    ⟨some 7, none, .ixs (.k 6) (.c (.i .i64 1)), [0, 1, 2], 0⟩,
    ⟨some 8, none, .cv (.int .i64) (.k 7), [0, 1, 2], 0⟩,
    ⟨some 9, none, .bin .mul (.c (.i .i64 256)) (.k 8), [0, 1, 2], 0⟩,
    ⟨some 10, none, .bin .add (.k 5) (.k 9), [], 0⟩,
    ⟨some 11, none, .mv (.t 0), [0, 1, 2, 3, 4, 5, 6, 7], 0⟩,
    ⟨some 12, none, .ixs (.k 11) (.c (.i .i64 2)), [0, 1, 2, 3, 4, 5, 6, 7], 0⟩,
    ⟨some 13, none, .cv (.int .i64) (.k 12), [0, 1, 2, 3, 4, 5, 6, 7], 0⟩,
    ⟨some 14, none, .bin .mul (.c (.i .i64 65536)) (.k 13), [0, 1, 2, 3, 4, 5, 6, 7], 0⟩,
    ⟨some 15, none, .bin .add (.k 10) (.k 14), [], 0⟩,
    ⟨some 16, none, .mv (.t 0), [0, 1, 2, 3, 4, 5, 6, 7, 8, 9, 10, 11, 12], 0⟩,
    ⟨some 17, none, .ixs (.k 16) (.c (.i .i64 3)), [0, 1, 2, 3, 4, 5, 6, 7, 8, 9, 10, 11, 12], 0⟩,
    ⟨some 18, none, .cv (.int .i64) (.k 17), [0, 1, 2, 3, 4, 5, 6, 7, 8, 9, 10, 11, 12], 0⟩,
    ⟨some 19, none, .bin .mul (.c (.i .i64 16777216)) (.k 18), [0, 1, 2, 3, 4, 5, 6, 7, 8, 9, 10, 11, 12], 0⟩,
    ⟨some 20, none, .bin .add (.k 15) (.k 19), [], 0⟩,
    ⟨some 2, none, .mv (.k 20), [], 0⟩] true [2] [])
  .ret))⟩

def F_octet_In_Bytes : F := ⟨2, [.inl 4],
  (.seq (.reg [] [⟨some 4, none, .mv (.c (.s ⟨#[]⟩)), [], 0⟩] false [0, 1] [])
  (.seq (.blk 0 (.seq (.reg [] [⟨some 7, none, .mv (.t 0), [], 0⟩,
    ⟨some 8, none, .nc (.k 7), [], 0⟩,
    ⟨some 9, none, .fa 1 (.k 8), [], 0⟩,
    ⟨some 10, none, .ld false 1 .cp (.k 9), [], 0⟩,
    ⟨some 11, none, .bin .neq (.k 10) (.c (.i .i64 0)), [], 0⟩,
    ⟨some 12, none, .mv (.k 11), [], 0⟩,
    ⟨some 13, some (12, false), .mv (.t 1), [], 0⟩,
    ⟨some 14, some (12, false), .bin .leq (.k 13) (.c (.i .i64 0)), [], 0⟩,
    ⟨some 15, none, .pick (.k 12) (.c (.b true)) (.k 14), [], 0⟩,
    ⟨some 6, none, .mv (.k 15), [], 0⟩] false [0, 1, 6] [])
  (.cond 6 (.seq (.reg [] [⟨some 4, none, .mv (.c (.s ⟨#[]⟩)), [], 0⟩] false [4] [])
  .ret)
  (.seq (.reg [] [⟨some 17, none, .mv (.t 1), [], 0⟩,
    ⟨some 18, none, .mv (.t 0), [], 0⟩,
    ⟨some 19, none, .nc (.k 18), [], 0⟩,
    ⟨some 20, none, .fa 0 (.k 19), [], 0⟩,
    ⟨some 21, none, .ld false 1 .cp (.k 20), [], 0⟩,
    ⟨some 22, none, .len true (.k 21), [], 0⟩,
    ⟨some 23, none, .bin .gtr (.k 17) (.k 22), [], 0⟩,
    ⟨some 16, none, .mv (.k 23), [], 0⟩] false [0, 1, 16] [])
  (.cond 16 (.seq (.reg [] [⟨some 24, none, .mv (.k 0), [], 0⟩,
    ⟨some 25, none, .call n_octet_In_fail [.k 24, .c (.i .i64 1)], [], 0⟩] false [] [])
  (.seq (.reg [] [⟨some 4, none, .mv (.c (.s ⟨#[]⟩)), [], 0⟩] false [4] [])
  .ret))
  .skip)))))
  (.seq (.reg [] [⟨some 26, none, .mv (.t 0), [], 0⟩,
    ⟨some 27, none, .nc (.k 26), [], 0⟩,
    ⟨some 28, none, .fa 0 (.k 27), [], 0⟩,
    ⟨some 29, none, .ld false 1 .cp (.k 28), [], 0⟩,
    ⟨some 30, none, .mv (.t 1), [], 0⟩,
    ⟨some 31, none, .ss (.k 29) none (some (.k 30)), [], 0⟩,
    ⟨some 5, none, .mv (.k 31), [], 0⟩] false [0, 1, 5] [])
  (.seq (.reg [] [⟨some 32, none, .mv (.t 0), [], 0⟩,
    ⟨some 33, none, .mv (.k 0), [], 0⟩,
    ⟨some 34, none, .nc (.k 33), [], 0⟩,
    ⟨some 35, none, .fa 0 (.k 34), [], 0⟩,
    ⟨some 36, none, .ld false 1 .cp (.k 35), [], 0⟩,
    ⟨some 37, none, .mv (.k 1), [], 0⟩,
    ⟨some 38, none, .ss (.k 36) (some (.k 37)) none, [], 0⟩,
    ⟨some 39, none, .nc (.k 32), [], 0⟩,
    ⟨some 40, none, .fa 0 (.k 39), [], 0⟩,
    ⟨none, none, .st 1 (.k 40) (.k 38), [], 0⟩] false [5] [])
  (.seq (.reg [] [⟨some 41, none, .mv (.k 5), [], 0⟩,
    ⟨some 4, none, .mv (.k 41), [], 0⟩] false [4] [])
  .ret)))))⟩

def F_octet_In_Word : F := ⟨1, [.inl 2],
  (.seq (.reg [] [⟨some 2, none, .mv (.c (.i .u32 0)), [], 0⟩] false [0] [])
  (.seq (.reg [] [⟨some 3, none, .mv (.c (.i .u32 0)), [], 0⟩] false [0, 3] [])
  (.seq (.seq (.reg [] [⟨some 6, none, .mv (.k 0), [], 0⟩,
    ⟨some 7, none, .call n_octet_In_Bytes [.k 6, .c (.i .i64 4)], [], 0⟩,
    ⟨some 8, none, .cv .bytes (.k 7), [], 1⟩,
    ⟨some 9, none, .len false (.t 8), [], 0⟩,
    ⟨some 10, none, .mv (.c (.i .i64 0)), [], 0⟩] false [3, 8, 9, 10] [])
  (.blk 0 (.loop (.seq (.reg [] [⟨some 11, none, .bin .lss (.t 10) (.t 9), [], 0⟩] false [3, 8, 9, 10, 11] [])
  (.seq (.cond 11 .skip
  (.exit 0))
  (.seq (.blk 1 (.seq (.reg [] [⟨some 12, none, .mv (.t 10), [], 0⟩,
    ⟨some 13, none, .ia 1 none (.t 8) (.t 10), [], 0⟩,
    ⟨some 14, none, .ld false 1 .cp (.k 13), [], 0⟩,
    ⟨some 4, none, .mv (.k 12), [], 0⟩,
    ⟨some 5, none, .mv (.k 14), [], 0⟩] false [3, 4, 5, 8, 9, 10] [])
  (.reg [] [⟨some 15, none, .mv (.k 3), [], 0⟩,
    ⟨some 16, none, .mv (.k 5), [], 0⟩,
    ⟨some 17, none, .cv (.int .u32) (.k 16), [], 0⟩,
    ⟨some 18, none, .mv (.k 4), [], 0⟩,
    ⟨some 19, none, .bin .mul (.c (.i .i64 8)) (.k 18), [], 0⟩,
    ⟨some 20, none, .bin .shl (.k 17) (.k 19), [], 0⟩,
    ⟨some 21, none, .bin .or (.k 15) (.k 20), [], 0⟩,
    ⟨some 3, none, .mv (.k 21), [], 0⟩] false [3, 8, 9, 10] [])))
  (.reg [] [⟨some 22, none, .bin .add (.k 10) (.c (.i .i64 1)), [], 0⟩,
    ⟨some 10, none, .mv (.k 22), [], 0⟩] false [3, 8, 9, 10] [])))))))
  (.seq (.reg [] [⟨some 23, none, .mv (.k 3), [], 0⟩,
    ⟨some 2, none, .mv (.k 23), [], 0⟩] false [2] [])
  .ret))))⟩

def F_octet_In_Err : F := ⟨1, [.inl 2],
  (.seq (.reg [] [⟨some 2, none, .mv (.c (.i .i64 0)), [], 0⟩] false [0] [])
  (.seq (.reg [] [⟨some 3, none, .mv (.k 0), [], 0⟩,
    ⟨some 4, none, .nc (.k 3), [], 0⟩,
    ⟨some 5, none, .fa 1 (.k 4), [], 0⟩,
    ⟨some 6, none, .ld false 1 .cp (.k 5), [], 0⟩,
    ⟨some 2, none, .mv (.k 6), [], 0⟩] false [2] [])
  .ret))⟩

def F_crc_Table_Open : F := ⟨2, [.inl 4, .inl 5],
  (.seq (.reg [] [⟨some 4, none, .mv (.c (.s ⟨#[]⟩)), [], 0⟩,
    ⟨some 5, none, .mv (.c (.i .i64 0)), [], 0⟩] false [0, 1] [])
  (.seq (.reg [] [⟨some 7, none, .mv (.t 1), [], 0⟩,
    ⟨some 8, none, .len true (.k 7), [], 0⟩,
    ⟨some 9, none, .bin .sub (.k 8) (.c (.i .i64 4)), [], 0⟩,
    ⟨some 6, none, .mv (.k 9), [], 0⟩] false [0, 1, 6] [])
  (.seq (.seq (.reg [] [⟨some 10, none, .mv (.t 6), [], 0⟩,
    ⟨some 11, none, .bin .lss (.k 10) (.c (.i .i64 0)), [], 0⟩] false [0, 1, 6, 11] [])
  (.cond 11 (.seq (.reg [] [⟨some 4, none, .mv (.c (.s ⟨#[]⟩)), [], 0⟩,
    ⟨some 5, none, .mv (.c (.i .i64 1)), [], 0⟩] false [4, 5] [])
  .ret)
  .skip))
  (.seq (.seq (.reg [] [⟨some 12, none, .mv (.t 1), [], 0⟩,
    ⟨some 13, none, .mv (.t 6), [0], 0⟩,
    ⟨some 14, none, .ss (.k 12) (some (.k 13)) none, [], 0⟩,
    ⟨some 15, none, .call n_octet_Of [.k 14], [], 0⟩,
    ⟨some 16, none, .call n_octet_In_Word [.k 15], [], 0⟩,
    ⟨some 17, none, .mv (.k 0), [0, 1, 2, 3, 4], 0⟩,
    ⟨some 18, none, .mv (.t 1), [0, 1, 2, 3, 4, 5], 0⟩,
    ⟨some 19, none, .mv (.t 6), [0, 1, 2, 3, 4, 5, 6], 0⟩,
    ⟨some 20, none, .ss (.k 18) none (some (.k 19)), [0, 1, 2, 3, 4, 5], 0⟩,
    ⟨some 21, none, .bs 1 1 (.s ⟨#[]⟩) [(0, .k 20)], [0, 1, 2, 3, 4, 5], 2⟩,
    ⟨some 22, none, .call n_crc_Table_Sum [.k 17, .k 21], [], 0⟩,
    ⟨some 23, none, .bin .neq (.k 16) (.k 22), [], 0⟩] true [1, 6, 23] [])
  (.cond 23 (.seq (.reg [] [⟨some 4, none, .mv (.c (.s ⟨#[]⟩)), [], 0⟩,
    ⟨some 5, none, .mv (.c (.i .i64 7)), [], 0⟩] false [4, 5] [])
  .ret)
  .skip))
  (.seq (.reg [] [⟨some 24, none, .mv (.k 1), [], 0⟩,
    ⟨some 25, none, .mv (.k 6), [], 0⟩,
    ⟨some 26, none, .ss (.k 24) none (some (.k 25)), [], 0⟩,
    ⟨some 4, none, .mv (.k 26), [], 0⟩,
    ⟨some 5, none, .mv (.c (.i .i64 0)), [], 0⟩] false [4, 5] [])
  .ret)))))⟩

def F_octet_fixed_uint32 : F := ⟨3, [.inl 6],
  (.seq (.reg [] [⟨some 6, none, .mv (.c (.l .o 1 [])), [], 0⟩] false [0, 1, 2] [])
  (.seq (.seq (.reg [] [⟨some 7, none, .mv (.k 2), [], 0⟩,
    ⟨some 8, none, .mv (.c (.i .i64 0)), [], 0⟩] false [0, 1, 7, 8] [])
  (.blk 0 (.loop (.seq (.reg [] [⟨some 9, none, .bin .lss (.t 8) (.t 7), [], 0⟩] false [0, 1, 7, 8, 9] [])
  (.seq (.cond 9 .skip
  (.exit 0))
  (.seq (.blk 1 (.seq (.reg [] [⟨some 10, none, .mv (.k 0), [], 0⟩,
    ⟨some 11, none, .mv (.t 1), [], 0⟩,
    ⟨some 12, none, .cv (.int .u8) (.k 11), [], 0⟩,
    ⟨some 13, none, .bs 1 1 (.i .u8 0) [(0, .k 12)], [], 0⟩,
    ⟨some 14, none, .app 1 1 (.k 10) (.k 13), [], 1⟩,
    ⟨some 0, none, .mv (.k 14), [], 0⟩] false [0, 1, 7, 8] [])
  (.reg [] [⟨some 15, none, .mv (.k 1), [], 0⟩,
    ⟨some 16, none, .bin .shr (.k 15) (.c (.i .u64 8)), [], 0⟩,
    ⟨some 1, none, .mv (.k 16), [], 0⟩] false [0, 1, 7, 8] [])))
  (.reg [] [⟨some 17, none, .bin .add (.k 8) (.c (.i .i64 1)), [], 0⟩,
    ⟨some 8, none, .mv (.k 17), [], 0⟩] false [0, 1, 7, 8] [])))))))
  (.seq (.reg [] [⟨some 18, none, .mv (.k 0), [], 0⟩,
    ⟨some 6, none, .mv (.k 18), [], 0⟩] false [6] [])
  .ret)))⟩

def F_crc_Table_More : F := ⟨3, [.inl 6],
  (.seq (.reg [] [⟨some 6, none, .mv (.c (.i .u32 0)), [], 0⟩] false [0, 1, 2] [])
  (.seq (.reg [] [⟨some 9, none, .mv (.k 1), [], 0⟩,
    ⟨some 10, none, .un .xor (.k 9), [], 0⟩,
    ⟨some 7, none, .mv (.k 10), [], 0⟩] false [0, 2, 7] [])
  (.seq (.seq (.reg [] [⟨some 11, none, .mv (.t 2), [], 0⟩,
    ⟨some 12, none, .len true (.k 11), [], 0⟩,
    ⟨some 13, none, .mv (.c (.i .i64 0)), [], 0⟩] false [0, 2, 7, 12, 13] [])
  (.blk 0 (.loop (.seq (.reg [] [⟨some 14, none, .bin .lss (.t 13) (.t 12), [], 0⟩] false [0, 2, 7, 12, 13, 14] [])
  (.seq (.cond 14 .skip
  (.exit 0))
  (.seq (.blk 1 (.seq (.reg [] [⟨some 15, none, .mv (.t 13), [], 0⟩,
    ⟨some 8, none, .mv (.k 15), [], 0⟩] false [0, 2, 7, 8, 12, 13] [])
  (.reg [] [⟨some 16, none, .mv (.t 7), [], 0⟩,
    ⟨some 17, none, .bin .shr (.k 16) (.c (.i .u64 8)), [], 0⟩,
    ⟨some 18, none, .mv (.t 0), [0, 1], 0⟩,
    ⟨some 19, none, .mv (.t 7), [0, 1, 2], 0⟩,
    ⟨some 20, none, .cv (.int .u8) (.k 19), [0, 1, 2], 0⟩,
    ⟨some 21, none, .mv (.t 2), [0, 1, 2, 3, 4], 0⟩,
    ⟨some 22, none, .mv (.k 8), [0, 1, 2, 3, 4, 5], 0⟩,
    ⟨some 23, none, .ixs (.k 21) (.k 22), [0, 1, 2, 3, 4], 0⟩,
    ⟨some 24, none, .bin .xor (.k 20) (.k 23), [0, 1, 2], 0⟩,
    ⟨some 25, none, .nc (.k 18), [0, 1, 3, 4, 5, 6, 7, 8], 0⟩,
    ⟨some 26, none, .ia 1 (some 256) (.k 25) (.k 24), [0, 1], 0⟩,
    ⟨some 27, none, .ld false 1 .cp (.k 26), [0, 1], 0⟩,
    ⟨some 28, none, .bin .xor (.k 17) (.k 27), [], 0⟩,
    ⟨some 7, none, .mv (.k 28), [], 0⟩] true [0, 2, 7, 12, 13] [])))
  (.reg [] [⟨some 29, none, .bin .add (.k 13) (.c (.i .i64 1)), [], 0⟩,
    ⟨some 13, none, .mv (.k 29), [], 0⟩] false [0, 2, 7, 12, 13] [])))))))
  (.seq (.reg [] [⟨some 30, none, .mv (.k 7), [], 0⟩,
    ⟨some 31, none, .un .xor (.k 30), [], 0⟩,
    ⟨some 6, none, .mv (.k 31), [], 0⟩] false [6] [])
  .ret))))⟩

def F_octet_In_Long : F := ⟨1, [.inl 2],
  (.seq (.reg [] [⟨some 2, none, .mv (.c (.i .u64 0)), [], 0⟩] false [0] [])
  (.seq (.reg [] [⟨some 3, none, .mv (.c (.i .u64 0)), [], 0⟩] false [0, 3] [])
  (.seq (.seq (.reg [] [⟨some 6, none, .mv (.k 0), [], 0⟩,
    ⟨some 7, none, .call n_octet_In_Bytes [.k 6, .c (.i .i64 8)], [], 0⟩,
    ⟨some 8, none, .cv .bytes (.k 7), [], 1⟩,
    ⟨some 9, none, .len false (.t 8), [], 0⟩,
    ⟨some 10, none, .mv (.c (.i .i64 0)), [], 0⟩] false [3, 8, 9, 10] [])
  (.blk 0 (.loop (.seq (.reg [] [⟨some 11, none, .bin .lss (.t 10) (.t 9), [], 0⟩] false [3, 8, 9, 10, 11] [])
  (.seq (.cond 11 .skip
  (.exit 0))
  (.seq (.blk 1 (.seq (.reg [] [⟨some 12, none, .mv (.t 10), [], 0⟩,
    ⟨some 13, none, .ia 1 none (.t 8) (.t 10), [], 0⟩,
    ⟨some 14, none, .ld false 1 .cp (.k 13), [], 0⟩,
    ⟨some 4, none, .mv (.k 12), [], 0⟩,
    ⟨some 5, none, .mv (.k 14), [], 0⟩] false [3, 4, 5, 8, 9, 10] [])
  (.reg [] [⟨some 15, none, .mv (.k 3), [], 0⟩,
    ⟨some 16, none, .mv (.k 5), [], 0⟩,
    ⟨some 17, none, .cv (.int .u64) (.k 16), [], 0⟩,
    ⟨some 18, none, .mv (.k 4), [], 0⟩,
    ⟨some 19, none, .bin .mul (.c (.i .i64 8)) (.k 18), [], 0⟩,
    ⟨some 20, none, .bin .shl (.k 17) (.k 19), [], 0⟩,
    ⟨some 21, none, .bin .or (.k 15) (.k 20), [], 0⟩,
    ⟨some 3, none, .mv (.k 21), [], 0⟩] false [3, 8, 9, 10] [])))
  (.reg [] [⟨some 22, none, .bin .add (.k 10) (.c (.i .i64 1)), [], 0⟩,
    ⟨some 10, none, .mv (.k 22), [], 0⟩] false [3, 8, 9, 10] [])))))))
  (.seq (.reg [] [⟨some 23, none, .mv (.k 3), [], 0⟩,
    ⟨some 2, none, .mv (.k 23), [], 0⟩] false [2] [])
  .ret))))⟩

def F_octet_In_Int : F := ⟨1, [.inl 2],
  (.seq (.reg [] [⟨some 2, none, .mv (.c (.i .i64 0)), [], 0⟩] false [0] [])
  (.seq (.reg [] [⟨some 4, none, .mv (.k 0), [], 0⟩,
    ⟨some 5, none, .call n_octet_In_Num [.k 4, .c (.i .u64 18446744073709551615)], [], 0⟩,
    ⟨some 3, none, .mv (.k 5), [], 0⟩] false [3] [])
  (.seq (.reg [] [⟨some 6, none, .mv (.t 3), [], 0⟩,
    ⟨some 7, none, .bin .shr (.k 6) (.c (.i .u64 1)), [], 0⟩,
    ⟨some 8, none, .cv (.int .i64) (.k 7), [], 0⟩,
    ⟨some 9, none, .mv (.k 3), [], 0⟩,
    ⟨some 10, none, .bin .and (.k 9) (.c (.i .u64 1)), [], 0⟩,
    ⟨some 11, none, .cv (.int .i64) (.k 10), [], 0⟩,
    ⟨some 12, none, .un .neg (.k 11), [], 0⟩,
    ⟨some 13, none, .bin .xor (.k 8) (.k 12), [], 0⟩,
    ⟨some 2, none, .mv (.k 13), [], 0⟩] false [2] [])
  .ret)))⟩

def F_real_Back : F := ⟨1, [.inl 2, .inl 3],
  (.seq (.reg [] [⟨some 2, none, .mv (.c (.f .f64 0)), [], 0⟩,
    ⟨some 3, none, .mv (.c (.b false)), [], 0⟩] false [0] [])
  (.seq (.reg [] [⟨some 6, none, .mv (.t 0), [], 0⟩,
    ⟨some 7, none, .un .xor (.k 6), [], 0⟩,
    ⟨some 4, none, .mv (.k 7), [], 0⟩] false [0, 4] [])
  (.seq (.seq (.reg [] [⟨some 8, none, .mv (.t 0), [], 0⟩,
    ⟨some 9, none, .bin .and (.k 8) (.c (.i .u64 9223372036854775808)), [], 0⟩,
    ⟨some 10, none, .bin .neq (.k 9) (.c (.i .u64 0)), [], 0⟩] false [0, 4, 10] [])
  (.cond 10 (.reg [] [⟨some 11, none, .mv (.t 0), [], 0⟩,
    ⟨some 12, none, .bin .andNot (.k 11) (.c (.i .u64 9223372036854775808)), [], 0⟩,
    ⟨some 4, none, .mv (.k 12), [], 0⟩] false [0, 4] [])
  .skip))
  (.seq (.reg [] [⟨some 13, none, .mv (.k 4), [], 0⟩,
    ⟨some 14, none, .frbits (.k 13), [], 0⟩,
    ⟨some 5, none, .mv (.k 14), [], 0⟩] false [0, 5] [])
  (.seq (.seq (.reg [] [⟨some 15, none, .mv (.t 5), [], 0⟩,
    ⟨some 16, none, .call n_real_Key [.k 15], [], 0⟩,
    ⟨some 17, none, .mv (.k 0), [], 0⟩,
    ⟨some 18, none, .bin .neq (.k 16) (.k 17), [], 0⟩] false [5, 18] [])
  (.cond 18 (.seq (.reg [] [⟨some 2, none, .mv (.c (.f .f64 0)), [], 0⟩,
    ⟨some 3, none, .mv (.c (.b false)), [], 0⟩] false [2, 3] [])
  .ret)
  .skip))
  (.seq (.reg [] [⟨some 19, none, .mv (.k 5), [], 0⟩,
    ⟨some 2, none, .mv (.k 19), [], 0⟩,
    ⟨some 3, none, .mv (.c (.b true)), [], 0⟩] false [2, 3] [])
  .ret))))))⟩

def F_c_ref01_Bytes : F := ⟨2, [.inr (4, true, 2), .inl 5],
  (.seq (.reg [] [⟨some 2, none, .bx (.k 0), [], 0⟩,
    ⟨some 4, none, .al ([.s ⟨#[]⟩, .i .i64 0]), [], 0⟩,
    ⟨some 5, none, .mv (.c (.s ⟨#[]⟩)), [], 0⟩] false [1, 2, 4] [2, 4])
  (.seq (.seq (.reg [] [⟨some 6, none, .fa 1 (.t 2), [], 0⟩,
    ⟨some 7, none, .ld false 1 .cp (.k 6), [], 0⟩,
    ⟨some 8, none, .bin .neq (.k 7) (.c (.i .i64 0)), [], 0⟩,
    ⟨some 9, none, .mv (.k 8), [], 0⟩,
    ⟨some 10, some (9, false), .mv (.t 1), [], 0⟩,
    ⟨some 11, some (9, false), .bin .leq (.k 10) (.c (.i .i64 0)), [], 0⟩,
    ⟨some 12, none, .pick (.k 9) (.c (.b true)) (.k 11), [], 0⟩] false [1, 2, 4, 12] [2, 4])
  (.cond 12 (.seq (.reg [] [⟨some 13, none, .ld true 2 .cp (.k 2), [], 0⟩,
    ⟨none, none, .st 2 (.t 4) (.k 13), [], 0⟩,
    ⟨some 5, none, .mv (.c (.s ⟨#[]⟩)), [], 0⟩] false [4, 5] [4])
  .ret)
  .skip))
  (.seq (.seq (.reg [] [⟨some 14, none, .mv (.t 1), [], 0⟩,
    ⟨some 15, none, .fa 0 (.t 2), [], 0⟩,
    ⟨some 16, none, .ld false 1 .cp (.k 15), [], 0⟩,
    ⟨some 17, none, .len true (.k 16), [], 0⟩,
    ⟨some 18, none, .bin .gtr (.k 14) (.k 17), [], 0⟩] false [1, 2, 4, 18] [2, 4])
  (.cond 18 (.seq (.reg [] [⟨some 19, none, .call n_c_ref01_fail [.c (.i .i64 1)], [], 0⟩,
    ⟨none, none, .st 2 (.t 4) (.k 19), [], 0⟩,
    ⟨some 5, none, .mv (.c (.s ⟨#[]⟩)), [], 0⟩] false [4, 5] [4])
  .ret)
  .skip))
  (.seq (.reg [] [⟨some 20, none, .fa 0 (.t 2), [], 0⟩,
    ⟨some 21, none, .ld false 1 .cp (.k 20), [], 0⟩,
    ⟨some 22, none, .mv (.t 1), [0, 1], 0⟩,
    ⟨some 23, none, .ss (.k 21) (some (.k 22)) none, [], 0⟩,
    ⟨some 24, none, .bd ([.s ⟨#[]⟩, .i .i64 0]) [(0, 1, .k 23), (1, 1, .c (.i .i64 0))], [], 0⟩,
    ⟨some 25, none, .fa 0 (.t 2), [0, 1, 2, 3, 4], 0⟩,
    ⟨some 26, none, .ld false 1 .cp (.k 25), [0, 1, 2, 3, 4], 0⟩,
    ⟨some 27, none, .mv (.t 1), [0, 1, 2, 3, 4, 5, 6], 0⟩,
    ⟨some 28, none, .ss (.k 26) none (some (.k 27)), [0, 1, 2, 3, 4], 0⟩,
    ⟨none, none, .st 2 (.t 4) (.k 24), [5, 6, 7, 8], 0⟩,
    ⟨some 5, none, .mv (.k 28), [], 0⟩] true [4, 5] [4])
  .ret))))⟩

def F_container_heap_Init : F := ⟨1, [],
  (.seq (.reg [] [⟨some 4, none, .mv (.t 0), [], 0⟩,
    ⟨some 5, none, .inv "Len" (.k 4) [], [], 0⟩,
    ⟨some 2, none, .mv (.k 5), [], 0⟩] false [0, 2] [])
  (.seq (.reg [] [⟨some 6, none, .mv (.t 2), [], 0⟩,
    ⟨some 7, none, .bin .quo (.k 6) (.c (.i .i64 2)), [], 0⟩,
    ⟨some 8, none, .bin .sub (.k 7) (.c (.i .i64 1)), [], 0⟩,
    ⟨some 3, none, .mv (.k 8), [], 0⟩] false [0, 2, 3] [])
  (.blk 0 (.loop (.seq (.seq (.reg [] [⟨some 9, none, .mv (.t 3), [], 0⟩,
    ⟨some 10, none, .bin .geq (.k 9) (.c (.i .i64 0)), [], 0⟩] false [0, 2, 3, 10] [])
  (.cond 10 .skip
  (.exit 0)))
  (.seq (.blk 1 (.reg [] [⟨some 13, none, .mv (.t 0), [], 0⟩,
    ⟨some 14, none, .mv (.t 3), [], 0⟩,
    ⟨some 15, none, .mv (.t 2), [], 0⟩,
    ⟨some 16, none, .call n_container_heap_down [.k 13, .k 14, .k 15], [], 0⟩] false [0, 2, 3] []))
  (.reg [] [⟨some 11, none, .mv (.k 3), [], 0⟩,
    ⟨some 12, none, .bin .sub (.k 11) (.c (.i .i64 1)), [], 0⟩,
    ⟨some 3, none, .mv (.k 12), [], 0⟩] false [0, 2, 3] [])))))))⟩

def F_pile_Pile_Take : F := ⟨1, [.inr (2, true, 2), .inl 3],
  (.seq (.reg [] [⟨some 2, none, .al ([.f .f64 0, .i .i64 0]), [], 0⟩,
    ⟨some 3, none, .mv (.c (.b false)), [], 0⟩] false [0, 2] [2])
  (.seq (.seq (.reg [] [⟨some 4, none, .mv (.t 0), [], 0⟩,
    ⟨some 5, none, .nc (.k 4), [], 0⟩,
    ⟨some 6, none, .fa 0 (.k 5), [], 0⟩,
    ⟨some 7, none, .lda 1 (.k 6), [], 1⟩,
    ⟨some 8, none, .len false (.k 7), [], 0⟩,
    ⟨some 9, none, .bin .eql (.k 8) (.c (.i .i64 0)), [], 0⟩] false [0, 2, 9] [2])
  (.cond 9 (.seq (.reg [] [⟨some 10, none, .bd ([.f .f64 0, .i .i64 0]) [], [], 0⟩,
    ⟨none, none, .st 2 (.t 2) (.k 10), [], 0⟩,
    ⟨some 3, none, .mv (.c (.b false)), [], 0⟩] false [2, 3] [2])
  .ret)
  .skip))
  (.seq (.reg [] [⟨some 11, none, .mv (.k 0), [], 0⟩,
    ⟨some 12, none, .nc (.k 11), [], 0⟩,
    ⟨some 13, none, .fa 0 (.k 12), [], 0⟩,
    ⟨some 14, none, .mi t_pile_items_u (.k 13), [], 0⟩,
    ⟨some 15, none, .call n_container_heap_Pop [.k 14], [], 0⟩,
    ⟨some 16, none, .ta t_pile_Item (.k 15), [], 0⟩,
    ⟨none, none, .st 2 (.t 2) (.k 16), [], 0⟩,
    ⟨some 3, none, .mv (.c (.b true)), [], 0⟩] false [2, 3] [2])
  .ret)))⟩

def F_container_heap_down : F := ⟨3, [.inl 6],
  (.seq (.reg [] [⟨some 6, none, .mv (.c (.b false)), [], 0⟩] false [0, 1, 2] [])
  (.seq (.reg [] [⟨some 11, none, .mv (.t 1), [], 0⟩,
    ⟨some 7, none, .mv (.k 11), [], 0⟩] false [0, 1, 2, 7] [])
  (.seq (.blk 0 (.loop (.blk 1 (.seq (.reg [] [⟨some 12, none, .mv (.t 7), [], 0⟩,
    ⟨some 13, none, .bin .mul (.c (.i .i64 2)) (.k 12), [], 0⟩,
    ⟨some 14, none, .bin .add (.k 13) (.c (.i .i64 1)), [], 0⟩,
    ⟨some 8, none, .mv (.k 14), [], 0⟩] false [0, 1, 2, 7, 8] [])
  (.seq (.seq (.reg [] [⟨some 15, none, .mv (.t 8), [], 0⟩,
    ⟨some 16, none, .mv (.t 2), [], 0⟩,
    ⟨some 17, none, .bin .geq (.k 15) (.k 16), [], 0⟩,
    ⟨some 18, none, .mv (.k 17), [], 0⟩,
    ⟨some 19, some (18, false), .mv (.t 8), [], 0⟩,
    ⟨some 20, some (18, false), .bin .lss (.k 19) (.c (.i .i64 0)), [], 0⟩,
    ⟨some 21, none, .pick (.k 18) (.c (.b true)) (.k 20), [], 0⟩] false [0, 1, 2, 7, 8, 21] [])
  (.cond 21 (.exit 0)
  .skip))
  (.seq (.reg [] [⟨some 22, none, .mv (.t 8), [], 0⟩,
    ⟨some 9, none, .mv (.k 22), [], 0⟩] false [0, 1, 2, 7, 8, 9] [])
  (.seq (.seq (.reg [] [⟨some 23, none, .mv (.t 8), [], 0⟩,
    ⟨some 24, none, .bin .add (.k 23) (.c (.i .i64 1)), [], 0⟩,
    ⟨some 10, none, .mv (.k 24), [], 0⟩] false [0, 1, 2, 7, 8, 9, 10] [])
  (.seq (.reg [] [⟨some 25, none, .mv (.t 10), [], 0⟩,
    ⟨some 26, none, .mv (.t 2), [], 0⟩,
    ⟨some 27, none, .bin .lss (.k 25) (.k 26), [], 0⟩,
    ⟨some 28, none, .mv (.k 27), [], 0⟩,
    ⟨some 29, some (28, true), .mv (.t 0), [], 0⟩,
    ⟨some 30, some (28, true), .mv (.t 10), [], 0⟩,
    ⟨some 31, some (28, true), .mv (.k 8), [], 0⟩,
    ⟨some 32, some (28, true), .inv "Less" (.k 29) [.k 30, .k 31], [], 0⟩,
    ⟨some 33, none, .pick (.k 28) (.k 32) (.c (.b false)), [], 0⟩] false [0, 1, 2, 7, 9, 10, 33] [])
  (.cond 33 (.reg [] [⟨some 34, none, .mv (.k 10), [], 0⟩,
    ⟨some 9, none, .mv (.k 34), [], 0⟩] false [0, 1, 2, 7, 9] [])
  .skip)))
  (.seq (.seq (.reg [] [⟨some 35, none, .mv (.t 0), [], 0⟩,
    ⟨some 36, none, .mv (.t 9), [], 0⟩,
    ⟨some 37, none, .mv (.t 7), [], 0⟩,
    ⟨some 38, none, .inv "Less" (.k 35) [.k 36, .k 37], [], 0⟩,
    ⟨some 39, none, .un .not (.k 38), [], 0⟩] false [0, 1, 2, 7, 9, 39] [])
  (.cond 39 (.exit 0)
  .skip))
  (.seq (.reg [] [⟨some 40, none, .mv (.t 0), [], 0⟩,
    ⟨some 41, none, .mv (.k 7), [], 0⟩,
    ⟨some 42, none, .mv (.t 9), [], 0⟩,
    ⟨some 43, none, .inv "Swap" (.k 40) [.k 41, .k 42], [], 0⟩] false [0, 1, 2, 9] [])
  (.reg [] [⟨some 44, none, .mv (.k 9), [], 0⟩,
    ⟨some 7, none, .mv (.k 44), [], 0⟩] false [0, 1, 2, 7] []))))))))))
  (.seq (.reg [] [⟨some 45, none, .mv (.k 7), [], 0⟩,
    ⟨some 46, none, .mv (.k 1), [], 0⟩,
    ⟨some 47, none, .bin .gtr (.k 45) (.k 46), [], 0⟩,
    ⟨some 6, none, .mv (.k 47), [], 0⟩] false [6] [])
  .ret))))⟩

def F_container_heap_Pop : F := ⟨1, [.inl 2],
  (.seq (.reg [] [⟨some 2, none, .mv (.c (.nili)), [], 0⟩] false [0] [])
  (.seq (.reg [] [⟨some 4, none, .mv (.t 0), [], 0⟩,
    ⟨some 5, none, .inv "Len" (.k 4) [], [], 0⟩,
    ⟨some 6, none, .bin .sub (.k 5) (.c (.i .i64 1)), [], 0⟩,
    ⟨some 3, none, .mv (.k 6), [], 0⟩] false [0, 3] [])
  (.seq (.reg [] [⟨some 7, none, .mv (.t 0), [], 0⟩,
    ⟨some 8, none, .mv (.t 3), [], 0⟩,
    ⟨some 9, none, .inv "Swap" (.k 7) [.c (.i .i64 0), .k 8], [], 0⟩] false [0, 3] [])
  (.seq (.reg [] [⟨some 10, none, .mv (.t 0), [], 0⟩,
    ⟨some 11, none, .mv (.k 3), [], 0⟩,
    ⟨some 12, none, .call n_container_heap_down [.k 10, .c (.i .i64 0), .k 11], [], 0⟩] false [0] [])
  (.seq (.reg [] [⟨some 13, none, .mv (.k 0), [], 0⟩,
    ⟨some 14, none, .inv "Pop" (.k 13) [], [], 0⟩,
    ⟨some 2, none, .mv (.k 14), [], 0⟩] false [2] [])
  .ret)))))⟩

def F_pile_items_Len : F := ⟨1, [.inl 2],
  (.seq (.reg [.zz 0] [⟨some 2, none, .mv (.c (.i .i64 0)), [], 0⟩] false [0] [])
  (.seq (.reg [] [⟨some 3, none, .mv (.k 0), [], 0⟩,
    ⟨some 4, none, .len false (.k 3), [], 0⟩,
    ⟨some 2, none, .mv (.k 4), [], 0⟩] false [2] [])
  .ret))⟩

def F_pile_items_Less : F := ⟨3, [.inl 6],
  (.seq (.reg [.zz 0] [⟨some 6, none, .mv (.c (.b false)), [], 0⟩] false [0, 1, 2] [])
  (.seq (.reg [] [⟨some 7, none, .mv (.t 0), [], 0⟩,
    ⟨some 8, none, .mv (.k 1), [0], 0⟩,
    ⟨some 9, none, .ia 2 none (.k 7) (.k 8), [], 0⟩,
    ⟨some 10, none, .ld true 2 .cp (.k 9), [], 0⟩,
    ⟨some 11, none, .mv (.t 0), [0, 1, 2, 3], 0⟩,
    ⟨some 12, none, .mv (.k 2), [0, 1, 2, 3, 4], 0⟩,
    ⟨some 13, none, .ia 2 none (.k 11) (.k 12), [0, 1, 2, 3], 0⟩,
    ⟨some 14, none, .ld true 2 .cp (.k 13), [0, 1, 2, 3], 0⟩,
    ⟨some 15, none, .call n_pile_Item_Cmp [.k 10, .k 14], [], 0⟩,
    ⟨some 16, none, .bin .lss (.k 15) (.c (.i .i64 0)), [], 0⟩,
    ⟨some 6, none, .mv (.k 16), [], 0⟩] true [6] [])
  .ret))⟩

def F_pile_items_Swap : F := ⟨3, [],
  (.reg [.thaw 0] [⟨some 6, none, .mv (.t 0), [], 0⟩,
    ⟨some 7, none, .mv (.t 1), [0], 0⟩,
    ⟨some 8, none, .mv (.t 0), [0, 1], 0⟩,
    ⟨some 9, none, .mv (.t 2), [0, 1, 2], 0⟩,
    ⟨some 10, none, .mv (.t 0), [0, 1, 2, 3], 0⟩,
    ⟨some 11, none, .mv (.t 2), [0, 1, 2, 3, 4], 0⟩,
    ⟨some 12, none, .ia 2 none (.k 10) (.k 11), [0, 1, 2, 3], 0⟩,
    ⟨some 13, none, .ld true 2 .cp (.k 12), [0, 1, 2, 3], 0⟩,
    ⟨some 14, none, .mv (.t 0), [0, 1, 2, 3, 4, 5, 6, 7], 0⟩,
    ⟨some 15, none, .mv (.t 1), [0, 1, 2, 3, 4, 5, 6, 7, 8], 0⟩,
    ⟨some 16, none, .ia 2 none (.k 14) (.k 15), [0, 1, 2, 3, 4, 5, 6, 7], 0⟩,
    ⟨some 17, none, .ld true 2 .cp (.k 16), [0, 1, 2, 3, 4, 5, 6, 7], 0⟩,
    ⟨some 18, none, .ia 2 none (.k 6) (.k 7), [2, 3], 0⟩,
    ⟨none, none, .st 2 (.k 18) (.k 13), [2, 3], 0⟩,
    ⟨some 19, none, .ia 2 none (.k 8) (.k 9), [], 0⟩,
    ⟨none, none, .st 2 (.k 19) (.k 17), [], 0⟩] true [] [])⟩

def F_pile_items_Pop : F := ⟨1, [.inl 2],
  (.seq (.reg [] [⟨some 2, none, .mv (.c (.nili)), [], 0⟩] false [0] [])
  (.seq (.reg [] [⟨some 5, none, .mv (.t 0), [], 0⟩,
    ⟨some 6, none, .nc (.k 5), [], 0⟩,
    ⟨some 7, none, .lda 1 (.k 6), [], 1⟩,
    ⟨some 8, none, .len false (.k 7), [], 0⟩,
    ⟨some 9, none, .bin .sub (.k 8) (.c (.i .i64 1)), [], 0⟩,
    ⟨some 3, none, .mv (.k 9), [], 0⟩] false [0, 3] [])
  (.seq (.reg [] [⟨some 10, none, .mv (.t 0), [], 0⟩,
    ⟨some 11, none, .nc (.k 10), [], 0⟩,
    ⟨some 12, none, .lda 1 (.k 11), [], 1⟩,
    ⟨some 13, none, .mv (.t 3), [], 0⟩,
    ⟨some 14, none, .ia 2 none (.k 12) (.k 13), [], 0⟩,
    ⟨some 15, none, .ld true 2 .cp (.k 14), [], 0⟩,
    ⟨some 4, none, .al ([.f .f64 0, .i .i64 0]), [], 0⟩,
    ⟨none, none, .st 2 (.t 4) (.k 15), [], 0⟩] false [0, 3, 4] [4])
  (.seq (.reg [] [⟨some 16, none, .mv (.t 0), [], 0⟩,
    ⟨some 17, none, .mv (.k 0), [], 0⟩,
    ⟨some 18, none, .nc (.k 17), [], 0⟩,
    ⟨some 19, none, .ld false 1 .tk (.k 18), [], 0⟩,
    ⟨some 20, none, .mv (.k 3), [], 0⟩,
    ⟨some 21, none, .sl 2 (.k 19) none (some (.k 20)) none, [], 0⟩,
    ⟨some 22, none, .nc (.k 16), [], 0⟩,
    ⟨none, none, .st 1 (.k 22) (.k 21), [], 0⟩] false [4] [4])
  (.seq (.reg [] [⟨some 23, none, .ld true 2 .cp (.k 4), [], 0⟩,
    ⟨some 24, none, .mi t_pile_Item (.k 23), [], 0⟩,
    ⟨some 2, none, .mv (.k 24), [], 0⟩] false [2] [])
  .ret)))))⟩

def F_pile_items_Len_q : F := ⟨1, [.inl 2],
  (.seq (.reg [] [⟨some 2, none, .mv (.c (.i .i64 0)), [], 0⟩] false [0] [])
  (.seq (.reg [] [⟨some 3, none, .mv (.k 0), [], 0⟩,
    ⟨some 4, none, .len false (.k 3), [], 0⟩,
    ⟨some 2, none, .mv (.k 4), [], 0⟩] false [2] [])
  .ret))⟩

def F_pile_items_Less_q : F := ⟨3, [.inl 6],
  (.seq (.reg [] [⟨some 6, none, .mv (.c (.b false)), [], 0⟩] false [0, 1, 2] [])
  (.seq (.reg [] [⟨some 7, none, .mv (.t 0), [], 0⟩,
    ⟨some 8, none, .mv (.k 1), [0], 0⟩,
    ⟨some 9, none, .ia 2 none (.k 7) (.k 8), [], 0⟩,
    ⟨some 10, none, .ld true 2 .cp (.k 9), [], 0⟩,
    ⟨some 11, none, .mv (.t 0), [0, 1, 2, 3], 0⟩,
    ⟨some 12, none, .mv (.k 2), [0, 1, 2, 3, 4], 0⟩,
    ⟨some 13, none, .ia 2 none (.k 11) (.k 12), [0, 1, 2, 3], 0⟩,
    ⟨some 14, none, .ld true 2 .cp (.k 13), [0, 1, 2, 3], 0⟩,
    ⟨some 15, none, .call n_pile_Item_Cmp [.k 10, .k 14], [], 0⟩,
    ⟨some 16, none, .bin .lss (.k 15) (.c (.i .i64 0)), [], 0⟩,
    ⟨some 6, none, .mv (.k 16), [], 0⟩] true [6] [])
  .ret))⟩

def F_pile_items_Swap_q : F := ⟨3, [],
  (.reg [] [⟨some 6, none, .mv (.t 0), [], 0⟩,
    ⟨some 7, none, .mv (.t 1), [0], 0⟩,
    ⟨some 8, none, .mv (.t 0), [0, 1], 0⟩,
    ⟨some 9, none, .mv (.t 2), [0, 1, 2], 0⟩,
    ⟨some 10, none, .mv (.t 0), [0, 1, 2, 3], 0⟩,
    ⟨some 11, none, .mv (.t 2), [0, 1, 2, 3, 4], 0⟩,
    ⟨some 12, none, .ia 2 none (.k 10) (.k 11), [0, 1, 2, 3], 0⟩,
    ⟨some 13, none, .ld true 2 .cp (.k 12), [0, 1, 2, 3], 0⟩,
    ⟨some 14, none, .mv (.t 0), [0, 1, 2, 3, 4, 5, 6, 7], 0⟩,
    ⟨some 15, none, .mv (.t 1), [0, 1, 2, 3, 4, 5, 6, 7, 8], 0⟩,
    ⟨some 16, none, .ia 2 none (.k 14) (.k 15), [0, 1, 2, 3, 4, 5, 6, 7], 0⟩,
    ⟨some 17, none, .ld true 2 .cp (.k 16), [0, 1, 2, 3, 4, 5, 6, 7], 0⟩,
    ⟨some 18, none, .ia 2 none (.k 6) (.k 7), [2, 3], 0⟩,
    ⟨none, none, .st 2 (.k 18) (.k 13), [2, 3], 0⟩,
    ⟨some 19, none, .ia 2 none (.k 8) (.k 9), [], 0⟩,
    ⟨none, none, .st 2 (.k 19) (.k 17), [], 0⟩] true [] [])⟩

end Go.AM

/- The table of the functions. -/
namespace Go.AM
set_option linter.unusedVariables false
def tab : List (Nat × F) := [(n_c_law17_ImageChecks, F_c_law17_ImageChecks), (n_c_law17_ImageShapes, F_c_law17_ImageShapes), (n_c_law19_SectionReads, F_c_law19_SectionReads), (n_c_law19_SectionShapes, F_c_law19_SectionShapes), (n_c_law17_ImageValues, F_c_law17_ImageValues), (n_c_law19_SectionMany, F_c_law19_SectionMany), (n_c_law19_SectionPuts, F_c_law19_SectionPuts), (n_c_law21_ElderVersions, F_c_law21_ElderVersions), (n_c_law20_FileSpoilt, F_c_law20_FileSpoilt), (n_c_law20_FilePrefix, F_c_law20_FilePrefix), (n_c_law20_FileBursts, F_c_law20_FileBursts), (n_c_law20_FilePuts, F_c_law20_FilePuts), (n_c_law17_awake, F_c_law17_awake), (n_c_law17_spoilt, F_c_law17_spoilt), (n_c_law17_Make, F_c_law17_Make), (n_image_Image_Check, F_image_Image_Check), (n_c_ref17_Check, F_c_ref17_Check), (n_c_law17_Told, F_c_law17_Told), (n_image_Shape, F_image_Shape), (n_image_Room, F_image_Room), (n_c_law01_Cut, F_c_law01_Cut), (n_c_law19_awake, F_c_law19_awake), (n_section_Read, F_section_Read), (n_c_ref19_Read, F_c_ref19_Read), (n_c_law18_Is, F_c_law18_Is), (n_section_Of, F_section_Of), (n_c_law12_Is, F_c_law12_Is), (n_image_Image_Value, F_image_Image_Value), (n_c_ref17_Value, F_c_ref17_Value), (n_image_Image_Same, F_image_Image_Same), (n_c_ref17_Same, F_c_ref17_Same), (n_c_ref19_Meta, F_c_ref19_Meta), (n_c_ref19_Data, F_c_ref19_Data), (n_section_Items, F_section_Items), (n_c_ref19_Items, F_c_ref19_Items), (n_c_law21_awake, F_c_law21_awake), (n_elder_Version, F_elder_Version), (n_c_ref21_Version, F_c_ref21_Version), (n_c_law20_awake, F_c_law20_awake), (n_c_ref20_Encode, F_c_ref20_Encode), (n_c_law20_reads, F_c_law20_reads), (n_c_ref02_Seal, F_c_ref02_Seal), (n_file_Decode, F_file_Decode), (n_file_Encode, F_file_Encode), (n_c_law12_Kind, F_c_law12_Kind), (n_c_law04_Own, F_c_law04_Own), (n_pile_Item_Canon, F_pile_Item_Canon), (n_c_law17_sorted, F_c_law17_sorted), (n_op_Legal, F_op_Legal), (n_image_order, F_image_order), (n_c_ref06_Legal, F_c_ref06_Legal), (n_c_ref04_Cmp, F_c_ref04_Cmp), (n_c_law04_Bits, F_c_law04_Bits), (n_octet_Of, F_octet_Of), (n_octet_In_Num, F_octet_In_Num), (n_octet_In_End, F_octet_In_End), (n_section_read, F_section_read), (n_c_ref01_Number, F_c_ref01_Number), (n_c_ref19_end, F_c_ref19_end), (n_c_ref19_items, F_c_ref19_items), (n_c_law04_Are, F_c_law04_Are), (n_section_meta, F_section_meta), (n_section_data, F_section_data), (n_pile_Sorted, F_pile_Sorted), (n_c_ref04_With, F_c_ref04_With), (n_slices_Equal_int64_int64, F_slices_Equal_int64_int64), (n_slices_EqualFunc_pile_Item_pile_Item_pile_Item_pile_Item, F_slices_EqualFunc_pile_Item_pile_Item_pile_Item_pile_Item), (n_image_Image_Same_1, F_image_Image_Same_1), (n_slices_EqualFunc_pile_Item_pile_Item_pile_Item_pile_Item_1, F_slices_EqualFunc_pile_Item_pile_Item_pile_Item_pile_Item_1), (n_image_Image_Same_1_1, F_image_Image_Same_1_1), (n_pile_Item_Cmp, F_pile_Item_Cmp), (n_c_ref01_Num2, F_c_ref01_Num2), (n_octet_Num, F_octet_Num), (n_octet_Int, F_octet_Int), (n_octet_Long, F_octet_Long), (n_real_Key, F_real_Key), (n_c_ref01_Fixed, F_c_ref01_Fixed), (n_c_ref03_Key, F_c_ref03_Key), (n_c_ref01_Int, F_c_ref01_Int), (n_elder_Write, F_elder_Write), (n_strings_HasPrefix, F_strings_HasPrefix), (n_c_ref20_word, F_c_ref20_word), (n_c_ref20_entry, F_c_ref20_entry), (n_c_ref02_Sum, F_c_ref02_Sum), (n_c_ref20_Decode, F_c_ref20_Decode), (n_c_ref02_Word, F_c_ref02_Word), (n_crc_Make, F_crc_Make), (n_file_reader_begin, F_file_reader_begin), (n_file_reader_sections, F_file_reader_sections), (n_octet_Word, F_octet_Word), (n_crc_Table_Sum, F_crc_Table_Sum), (n_crc_Table_Seal, F_crc_Table_Seal), (n_c_law03_F, F_c_law03_F), (n_real_Canon, F_real_Canon), (n_c_ref03_Cmp, F_c_ref03_Cmp), (n_c_ref03_Bits, F_c_ref03_Bits), (n_octet_In_Byte, F_octet_In_Byte), (n_octet_In_fail, F_octet_In_fail), (n_section_take, F_section_take), (n_c_ref01_fail, F_c_ref01_fail), (n_c_ref01_Whole, F_c_ref01_Whole), (n_c_ref01_Signed, F_c_ref01_Signed), (n_c_ref19_float, F_c_ref19_float), (n_c_law04_Is, F_c_law04_Is), (n_pile_New, F_pile_New), (n_pile_Pile_All, F_pile_Pile_All), (n_real_Cmp, F_real_Cmp), (n_octet_fixed_uint64, F_octet_fixed_uint64), (n_elder_one, F_elder_one), (n_elder_two, F_elder_two), (n_elder_three, F_elder_three), (n_internal_stringslite_HasPrefix, F_internal_stringslite_HasPrefix), (n_c_ref02_Bits, F_c_ref02_Bits), (n_c_ref20_number, F_c_ref20_number), (n_octet_In_Bytes, F_octet_In_Bytes), (n_octet_In_Word, F_octet_In_Word), (n_octet_In_Err, F_octet_In_Err), (n_crc_Table_Open, F_crc_Table_Open), (n_octet_fixed_uint32, F_octet_fixed_uint32), (n_crc_Table_More, F_crc_Table_More), (n_octet_In_Long, F_octet_In_Long), (n_octet_In_Int, F_octet_In_Int), (n_real_Back, F_real_Back), (n_c_ref01_Bytes, F_c_ref01_Bytes), (n_container_heap_Init, F_container_heap_Init), (n_pile_Pile_Take, F_pile_Pile_Take), (n_container_heap_down, F_container_heap_down), (n_container_heap_Pop, F_container_heap_Pop), (n_pile_items_Len, F_pile_items_Len), (n_pile_items_Less, F_pile_items_Less), (n_pile_items_Swap, F_pile_items_Swap), (n_pile_items_Pop, F_pile_items_Pop), (n_pile_items_Len_q, F_pile_items_Len_q), (n_pile_items_Less_q, F_pile_items_Less_q), (n_pile_items_Swap_q, F_pile_items_Swap_q)]
def methL : List (TypeId × String × FuncId) := [(t_pile_Item, "Canon", n_pile_Item_Canon), (t_pile_Item, "Cmp", n_pile_Item_Cmp), (t_pile_items_u, "Len", n_pile_items_Len_q), (t_pile_items_u, "Less", n_pile_items_Less_q), (t_pile_items_u, "Pop", n_pile_items_Pop), (t_pile_items_u, "Swap", n_pile_items_Swap_q)]
def EE : En := ⟨fun f => look f tab, some 99, some 124, fun t nm => (methL.find? fun p => p.1 == t && p.2.1 == nm).map (·.2.2)⟩
theorem e_c_law17_ImageChecks : EE.fn n_c_law17_ImageChecks = some F_c_law17_ImageChecks := by kernel_rfl
theorem e_c_law17_ImageShapes : EE.fn n_c_law17_ImageShapes = some F_c_law17_ImageShapes := by kernel_rfl
theorem e_c_law19_SectionReads : EE.fn n_c_law19_SectionReads = some F_c_law19_SectionReads := by kernel_rfl
theorem e_c_law19_SectionShapes : EE.fn n_c_law19_SectionShapes = some F_c_law19_SectionShapes := by kernel_rfl
theorem e_c_law17_ImageValues : EE.fn n_c_law17_ImageValues = some F_c_law17_ImageValues := by kernel_rfl
theorem e_c_law19_SectionMany : EE.fn n_c_law19_SectionMany = some F_c_law19_SectionMany := by kernel_rfl
theorem e_c_law19_SectionPuts : EE.fn n_c_law19_SectionPuts = some F_c_law19_SectionPuts := by kernel_rfl
theorem e_c_law21_ElderVersions : EE.fn n_c_law21_ElderVersions = some F_c_law21_ElderVersions := by kernel_rfl
theorem e_c_law20_FileSpoilt : EE.fn n_c_law20_FileSpoilt = some F_c_law20_FileSpoilt := by kernel_rfl
theorem e_c_law20_FilePrefix : EE.fn n_c_law20_FilePrefix = some F_c_law20_FilePrefix := by kernel_rfl
theorem e_c_law20_FileBursts : EE.fn n_c_law20_FileBursts = some F_c_law20_FileBursts := by kernel_rfl
theorem e_c_law20_FilePuts : EE.fn n_c_law20_FilePuts = some F_c_law20_FilePuts := by kernel_rfl
theorem e_c_law17_awake : EE.fn n_c_law17_awake = some F_c_law17_awake := by kernel_rfl
theorem e_c_law17_spoilt : EE.fn n_c_law17_spoilt = some F_c_law17_spoilt := by kernel_rfl
theorem e_c_law17_Make : EE.fn n_c_law17_Make = some F_c_law17_Make := by kernel_rfl
theorem e_image_Image_Check : EE.fn n_image_Image_Check = some F_image_Image_Check := by kernel_rfl
theorem e_c_ref17_Check : EE.fn n_c_ref17_Check = some F_c_ref17_Check := by kernel_rfl
theorem e_c_law17_Told : EE.fn n_c_law17_Told = some F_c_law17_Told := by kernel_rfl
theorem e_image_Shape : EE.fn n_image_Shape = some F_image_Shape := by kernel_rfl
theorem e_image_Room : EE.fn n_image_Room = some F_image_Room := by kernel_rfl
theorem e_c_law01_Cut : EE.fn n_c_law01_Cut = some F_c_law01_Cut := by kernel_rfl
theorem e_c_law19_awake : EE.fn n_c_law19_awake = some F_c_law19_awake := by kernel_rfl
theorem e_section_Read : EE.fn n_section_Read = some F_section_Read := by kernel_rfl
theorem e_c_ref19_Read : EE.fn n_c_ref19_Read = some F_c_ref19_Read := by kernel_rfl
theorem e_c_law18_Is : EE.fn n_c_law18_Is = some F_c_law18_Is := by kernel_rfl
theorem e_section_Of : EE.fn n_section_Of = some F_section_Of := by kernel_rfl
theorem e_c_law12_Is : EE.fn n_c_law12_Is = some F_c_law12_Is := by kernel_rfl
theorem e_image_Image_Value : EE.fn n_image_Image_Value = some F_image_Image_Value := by kernel_rfl
theorem e_c_ref17_Value : EE.fn n_c_ref17_Value = some F_c_ref17_Value := by kernel_rfl
theorem e_image_Image_Same : EE.fn n_image_Image_Same = some F_image_Image_Same := by kernel_rfl
theorem e_c_ref17_Same : EE.fn n_c_ref17_Same = some F_c_ref17_Same := by kernel_rfl
theorem e_c_ref19_Meta : EE.fn n_c_ref19_Meta = some F_c_ref19_Meta := by kernel_rfl
theorem e_c_ref19_Data : EE.fn n_c_ref19_Data = some F_c_ref19_Data := by kernel_rfl
theorem e_section_Items : EE.fn n_section_Items = some F_section_Items := by kernel_rfl
theorem e_c_ref19_Items : EE.fn n_c_ref19_Items = some F_c_ref19_Items := by kernel_rfl
theorem e_c_law21_awake : EE.fn n_c_law21_awake = some F_c_law21_awake := by kernel_rfl
theorem e_elder_Version : EE.fn n_elder_Version = some F_elder_Version := by kernel_rfl
theorem e_c_ref21_Version : EE.fn n_c_ref21_Version = some F_c_ref21_Version := by kernel_rfl
theorem e_c_law20_awake : EE.fn n_c_law20_awake = some F_c_law20_awake := by kernel_rfl
theorem e_c_ref20_Encode : EE.fn n_c_ref20_Encode = some F_c_ref20_Encode := by kernel_rfl
theorem e_c_law20_reads : EE.fn n_c_law20_reads = some F_c_law20_reads := by kernel_rfl
theorem e_c_ref02_Seal : EE.fn n_c_ref02_Seal = some F_c_ref02_Seal := by kernel_rfl
theorem e_file_Decode : EE.fn n_file_Decode = some F_file_Decode := by kernel_rfl
theorem e_file_Encode : EE.fn n_file_Encode = some F_file_Encode := by kernel_rfl
theorem e_c_law12_Kind : EE.fn n_c_law12_Kind = some F_c_law12_Kind := by kernel_rfl
theorem e_c_law04_Own : EE.fn n_c_law04_Own = some F_c_law04_Own := by kernel_rfl
theorem e_pile_Item_Canon : EE.fn n_pile_Item_Canon = some F_pile_Item_Canon := by kernel_rfl
theorem e_c_law17_sorted : EE.fn n_c_law17_sorted = some F_c_law17_sorted := by kernel_rfl
theorem e_op_Legal : EE.fn n_op_Legal = some F_op_Legal := by kernel_rfl
theorem e_image_order : EE.fn n_image_order = some F_image_order := by kernel_rfl
theorem e_c_ref06_Legal : EE.fn n_c_ref06_Legal = some F_c_ref06_Legal := by kernel_rfl
theorem e_c_ref04_Cmp : EE.fn n_c_ref04_Cmp = some F_c_ref04_Cmp := by kernel_rfl
theorem e_c_law04_Bits : EE.fn n_c_law04_Bits = some F_c_law04_Bits := by kernel_rfl
theorem e_octet_Of : EE.fn n_octet_Of = some F_octet_Of := by kernel_rfl
theorem e_octet_In_Num : EE.fn n_octet_In_Num = some F_octet_In_Num := by kernel_rfl
theorem e_octet_In_End : EE.fn n_octet_In_End = some F_octet_In_End := by kernel_rfl
theorem e_section_read : EE.fn n_section_read = some F_section_read := by kernel_rfl
theorem e_c_ref01_Number : EE.fn n_c_ref01_Number = some F_c_ref01_Number := by kernel_rfl
theorem e_c_ref19_end : EE.fn n_c_ref19_end = some F_c_ref19_end := by kernel_rfl
theorem e_c_ref19_items : EE.fn n_c_ref19_items = some F_c_ref19_items := by kernel_rfl
theorem e_c_law04_Are : EE.fn n_c_law04_Are = some F_c_law04_Are := by kernel_rfl
theorem e_section_meta : EE.fn n_section_meta = some F_section_meta := by kernel_rfl
theorem e_section_data : EE.fn n_section_data = some F_section_data := by kernel_rfl
theorem e_pile_Sorted : EE.fn n_pile_Sorted = some F_pile_Sorted := by kernel_rfl
theorem e_c_ref04_With : EE.fn n_c_ref04_With = some F_c_ref04_With := by kernel_rfl
theorem e_slices_Equal_int64_int64 : EE.fn n_slices_Equal_int64_int64 = some F_slices_Equal_int64_int64 := by kernel_rfl
theorem e_slices_EqualFunc_pile_Item_pile_Item_pile_Item_pile_Item : EE.fn n_slices_EqualFunc_pile_Item_pile_Item_pile_Item_pile_Item = some F_slices_EqualFunc_pile_Item_pile_Item_pile_Item_pile_Item := by kernel_rfl
theorem e_image_Image_Same_1 : EE.fn n_image_Image_Same_1 = some F_image_Image_Same_1 := by kernel_rfl
theorem e_slices_EqualFunc_pile_Item_pile_Item_pile_Item_pile_Item_1 : EE.fn n_slices_EqualFunc_pile_Item_pile_Item_pile_Item_pile_Item_1 = some F_slices_EqualFunc_pile_Item_pile_Item_pile_Item_pile_Item_1 := by kernel_rfl
theorem e_image_Image_Same_1_1 : EE.fn n_image_Image_Same_1_1 = some F_image_Image_Same_1_1 := by kernel_rfl
theorem e_pile_Item_Cmp : EE.fn n_pile_Item_Cmp = some F_pile_Item_Cmp := by kernel_rfl
theorem e_c_ref01_Num2 : EE.fn n_c_ref01_Num2 = some F_c_ref01_Num2 := by kernel_rfl
theorem e_octet_Num : EE.fn n_octet_Num = some F_octet_Num := by kernel_rfl
theorem e_octet_Int : EE.fn n_octet_Int = some F_octet_Int := by kernel_rfl
theorem e_octet_Long : EE.fn n_octet_Long = some F_octet_Long := by kernel_rfl
theorem e_real_Key : EE.fn n_real_Key = some F_real_Key := by kernel_rfl
theorem e_c_ref01_Fixed : EE.fn n_c_ref01_Fixed = some F_c_ref01_Fixed := by kernel_rfl
theorem e_c_ref03_Key : EE.fn n_c_ref03_Key = some F_c_ref03_Key := by kernel_rfl
theorem e_c_ref01_Int : EE.fn n_c_ref01_Int = some F_c_ref01_Int := by kernel_rfl
theorem e_elder_Write : EE.fn n_elder_Write = some F_elder_Write := by kernel_rfl
theorem e_strings_HasPrefix : EE.fn n_strings_HasPrefix = some F_strings_HasPrefix := by kernel_rfl
theorem e_c_ref20_word : EE.fn n_c_ref20_word = some F_c_ref20_word := by kernel_rfl
theorem e_c_ref20_entry : EE.fn n_c_ref20_entry = some F_c_ref20_entry := by kernel_rfl
theorem e_c_ref02_Sum : EE.fn n_c_ref02_Sum = some F_c_ref02_Sum := by kernel_rfl
theorem e_c_ref20_Decode : EE.fn n_c_ref20_Decode = some F_c_ref20_Decode := by kernel_rfl
theorem e_c_ref02_Word : EE.fn n_c_ref02_Word = some F_c_ref02_Word := by kernel_rfl
theorem e_crc_Make : EE.fn n_crc_Make = some F_crc_Make := by kernel_rfl
theorem e_file_reader_begin : EE.fn n_file_reader_begin = some F_file_reader_begin := by kernel_rfl
theorem e_file_reader_sections : EE.fn n_file_reader_sections = some F_file_reader_sections := by kernel_rfl
theorem e_octet_Word : EE.fn n_octet_Word = some F_octet_Word := by kernel_rfl
theorem e_crc_Table_Sum : EE.fn n_crc_Table_Sum = some F_crc_Table_Sum := by kernel_rfl
theorem e_crc_Table_Seal : EE.fn n_crc_Table_Seal = some F_crc_Table_Seal := by kernel_rfl
theorem e_c_law03_F : EE.fn n_c_law03_F = some F_c_law03_F := by kernel_rfl
theorem e_real_Canon : EE.fn n_real_Canon = some F_real_Canon := by kernel_rfl
theorem e_c_ref03_Cmp : EE.fn n_c_ref03_Cmp = some F_c_ref03_Cmp := by kernel_rfl
theorem e_c_ref03_Bits : EE.fn n_c_ref03_Bits = some F_c_ref03_Bits := by kernel_rfl
theorem e_octet_In_Byte : EE.fn n_octet_In_Byte = some F_octet_In_Byte := by kernel_rfl
theorem e_octet_In_fail : EE.fn n_octet_In_fail = some F_octet_In_fail := by kernel_rfl
theorem e_section_take : EE.fn n_section_take = some F_section_take := by kernel_rfl
theorem e_c_ref01_fail : EE.fn n_c_ref01_fail = some F_c_ref01_fail := by kernel_rfl
theorem e_c_ref01_Whole : EE.fn n_c_ref01_Whole = some F_c_ref01_Whole := by kernel_rfl
theorem e_c_ref01_Signed : EE.fn n_c_ref01_Signed = some F_c_ref01_Signed := by kernel_rfl
theorem e_c_ref19_float : EE.fn n_c_ref19_float = some F_c_ref19_float := by kernel_rfl
theorem e_c_law04_Is : EE.fn n_c_law04_Is = some F_c_law04_Is := by kernel_rfl
theorem e_pile_New : EE.fn n_pile_New = some F_pile_New := by kernel_rfl
theorem e_pile_Pile_All : EE.fn n_pile_Pile_All = some F_pile_Pile_All := by kernel_rfl
theorem e_real_Cmp : EE.fn n_real_Cmp = some F_real_Cmp := by kernel_rfl
theorem e_octet_fixed_uint64 : EE.fn n_octet_fixed_uint64 = some F_octet_fixed_uint64 := by kernel_rfl
theorem e_elder_one : EE.fn n_elder_one = some F_elder_one := by kernel_rfl
theorem e_elder_two : EE.fn n_elder_two = some F_elder_two := by kernel_rfl
theorem e_elder_three : EE.fn n_elder_three = some F_elder_three := by kernel_rfl
theorem e_internal_stringslite_HasPrefix : EE.fn n_internal_stringslite_HasPrefix = some F_internal_stringslite_HasPrefix := by kernel_rfl
theorem e_c_ref02_Bits : EE.fn n_c_ref02_Bits = some F_c_ref02_Bits := by kernel_rfl
theorem e_c_ref20_number : EE.fn n_c_ref20_number = some F_c_ref20_number := by kernel_rfl
theorem e_octet_In_Bytes : EE.fn n_octet_In_Bytes = some F_octet_In_Bytes := by kernel_rfl
theorem e_octet_In_Word : EE.fn n_octet_In_Word = some F_octet_In_Word := by kernel_rfl
theorem e_octet_In_Err : EE.fn n_octet_In_Err = some F_octet_In_Err := by kernel_rfl
theorem e_crc_Table_Open : EE.fn n_crc_Table_Open = some F_crc_Table_Open := by kernel_rfl
theorem e_octet_fixed_uint32 : EE.fn n_octet_fixed_uint32 = some F_octet_fixed_uint32 := by kernel_rfl
theorem e_crc_Table_More : EE.fn n_crc_Table_More = some F_crc_Table_More := by kernel_rfl
theorem e_octet_In_Long : EE.fn n_octet_In_Long = some F_octet_In_Long := by kernel_rfl
theorem e_octet_In_Int : EE.fn n_octet_In_Int = some F_octet_In_Int := by kernel_rfl
theorem e_real_Back : EE.fn n_real_Back = some F_real_Back := by kernel_rfl
theorem e_c_ref01_Bytes : EE.fn n_c_ref01_Bytes = some F_c_ref01_Bytes := by kernel_rfl
theorem e_container_heap_Init : EE.fn n_container_heap_Init = some F_container_heap_Init := by kernel_rfl
theorem e_pile_Pile_Take : EE.fn n_pile_Pile_Take = some F_pile_Pile_Take := by kernel_rfl
theorem e_container_heap_down : EE.fn n_container_heap_down = some F_container_heap_down := by kernel_rfl
theorem e_container_heap_Pop : EE.fn n_container_heap_Pop = some F_container_heap_Pop := by kernel_rfl
theorem e_pile_items_Len : EE.fn n_pile_items_Len = some F_pile_items_Len := by kernel_rfl
theorem e_pile_items_Less : EE.fn n_pile_items_Less = some F_pile_items_Less := by kernel_rfl
theorem e_pile_items_Swap : EE.fn n_pile_items_Swap = some F_pile_items_Swap := by kernel_rfl
theorem e_pile_items_Pop : EE.fn n_pile_items_Pop = some F_pile_items_Pop := by kernel_rfl
theorem e_pile_items_Len_q : EE.fn n_pile_items_Len_q = some F_pile_items_Len_q := by kernel_rfl
theorem e_pile_items_Less_q : EE.fn n_pile_items_Less_q = some F_pile_items_Less_q := by kernel_rfl
theorem e_pile_items_Swap_q : EE.fn n_pile_items_Swap_q = some F_pile_items_Swap_q := by kernel_rfl
end Go.AM
