/- Lemmas: an abstract machine over the loaded program, proved sound against the model once; what the program's functions compute. -/
import Derived.Test.YtpckpfohnpljgaaK0
import Derived.KernelRfl
/- The functions of the program, as the abstract machine takes them: printed by gen2.py. -/
namespace Go.AM
set_option linter.unusedVariables false
def t_pile_Item : TypeId := 90
def t_pile_items_u : TypeId := 188

def n_c_law17_ImageChecks : FuncId := 3
def n_c_law17_ImageShapes : FuncId := 4
def n_c_law19_SectionReads : FuncId := 5
def n_c_law19_SectionShapes : FuncId := 6
def n_c_law17_ImageValues : FuncId := 7
def n_c_law19_SectionMany : FuncId := 8
def n_c_law19_SectionPuts : FuncId := 9
def n_c_law21_ElderVersions : FuncId := 10
def n_c_law20_FileSpoilt : FuncId := 11
def n_c_law20_FilePrefix : FuncId := 12
def n_c_law20_FileBursts : FuncId := 13
def n_c_law20_FilePuts : FuncId := 14
def n_c_law17_awake : FuncId := 15
def n_c_law17_spoilt : FuncId := 16
def n_c_law17_Make : FuncId := 17
def n_image_Image_Check : FuncId := 18
def n_c_ref17_Check : FuncId := 19
def n_c_law17_Told : FuncId := 20
def n_image_Shape : FuncId := 21
def n_image_Room : FuncId := 22
def n_c_law01_Cut : FuncId := 23
def n_c_law19_awake : FuncId := 24
def n_section_Read : FuncId := 25
def n_c_ref19_Read : FuncId := 26
def n_c_law18_Is : FuncId := 27
def n_section_Of : FuncId := 28
def n_c_law12_Is : FuncId := 29
def n_image_Image_Value : FuncId := 30
def n_c_ref17_Value : FuncId := 31
def n_image_Image_Same : FuncId := 32
def n_c_ref17_Same : FuncId := 33
def n_c_ref19_Meta : FuncId := 34
def n_c_ref19_Data : FuncId := 35
def n_section_Items : FuncId := 36
def n_c_ref19_Items : FuncId := 37
def n_c_law21_awake : FuncId := 38
def n_elder_Version : FuncId := 39
def n_c_ref21_Version : FuncId := 40
def n_c_law20_awake : FuncId := 41
def n_c_ref20_Encode : FuncId := 42
def n_c_law20_reads : FuncId := 43
def n_c_ref02_Seal : FuncId := 44
def n_file_Decode : FuncId := 45
def n_file_Encode : FuncId := 46
def n_c_law12_Kind : FuncId := 47
def n_c_law04_Own : FuncId := 48
def n_pile_Item_Canon : FuncId := 49
def n_c_law17_sorted : FuncId := 50
def n_op_Legal : FuncId := 51
def n_image_order : FuncId := 52
def n_c_ref06_Legal : FuncId := 53
def n_c_ref04_Cmp : FuncId := 54
def n_c_law04_Bits : FuncId := 55
def n_octet_Of : FuncId := 56
def n_octet_In_Num : FuncId := 57
def n_octet_In_End : FuncId := 58
def n_section_read : FuncId := 59
def n_c_ref01_Number : FuncId := 60
def n_c_ref19_end : FuncId := 61
def n_c_ref19_items : FuncId := 62
def n_c_law04_Are : FuncId := 63
def n_section_meta : FuncId := 64
def n_section_data : FuncId := 65
def n_pile_Sorted : FuncId := 66
def n_c_ref04_With : FuncId := 67
def n_slices_Equal_int64_int64 : FuncId := 68
def n_slices_EqualFunc_pile_Item_pile_Item_pile_Item_pile_Item : FuncId := 69
def n_image_Image_Same_1 : FuncId := 70
def n_slices_EqualFunc_pile_Item_pile_Item_pile_Item_pile_Item_1 : FuncId := 71
def n_image_Image_Same_1_1 : FuncId := 72
def n_pile_Item_Cmp : FuncId := 73
def n_c_ref01_Num2 : FuncId := 74
def n_octet_Num : FuncId := 75
def n_octet_Int : FuncId := 76
def n_octet_Long : FuncId := 77
def n_real_Key : FuncId := 78
def n_c_ref01_Fixed : FuncId := 79
def n_c_ref03_Key : FuncId := 80
def n_c_ref01_Int : FuncId := 81
def n_elder_Write : FuncId := 82
def n_strings_HasPrefix : FuncId := 83
def n_c_ref20_word : FuncId := 84
def n_c_ref20_entry : FuncId := 85
def n_c_ref02_Sum : FuncId := 86
def n_c_ref20_Decode : FuncId := 87
def n_c_ref02_Word : FuncId := 88
def n_crc_Make : FuncId := 89
def n_file_reader_begin : FuncId := 90
def n_file_reader_sections : FuncId := 91
def n_octet_Word : FuncId := 92
def n_crc_Table_Sum : FuncId := 93
def n_crc_Table_Seal : FuncId := 94
def n_c_law03_F : FuncId := 95
def n_real_Canon : FuncId := 96
def n_c_ref03_Cmp : FuncId := 97
def n_c_ref03_Bits : FuncId := 98
def n_octet_In_Byte : FuncId := 100
def n_octet_In_fail : FuncId := 101
def n_section_take : FuncId := 102
def n_c_ref01_fail : FuncId := 103
def n_c_ref01_Whole : FuncId := 104
def n_c_ref01_Signed : FuncId := 105
def n_c_ref19_float : FuncId := 106
def n_c_law04_Is : FuncId := 107
def n_pile_New : FuncId := 108
def n_pile_Pile_All : FuncId := 109
def n_real_Cmp : FuncId := 110
def n_octet_fixed_uint64 : FuncId := 111
def n_elder_one : FuncId := 112
def n_elder_two : FuncId := 113
def n_elder_three : FuncId := 114
def n_internal_stringslite_HasPrefix : FuncId := 115
def n_c_ref02_Bits : FuncId := 116
def n_c_ref20_number : FuncId := 117
def n_octet_In_Bytes : FuncId := 118
def n_octet_In_Word : FuncId := 119
def n_octet_In_Err : FuncId := 120
def n_crc_Table_Open : FuncId := 121
def n_octet_fixed_uint32 : FuncId := 122
def n_crc_Table_More : FuncId := 123
def n_octet_In_Long : FuncId := 125
def n_octet_In_Int : FuncId := 126
def n_real_Back : FuncId := 127
def n_c_ref01_Bytes : FuncId := 128
def n_container_heap_Init : FuncId := 129
def n_pile_Pile_Take : FuncId := 130
def n_container_heap_down : FuncId := 131
def n_container_heap_Pop : FuncId := 132
def n_pile_items_Len : FuncId := 151
def n_pile_items_Less : FuncId := 152
def n_pile_items_Swap : FuncId := 153
def n_pile_items_Pop : FuncId := 154
def n_pile_items_Len_q : FuncId := 1000151
def n_pile_items_Less_q : FuncId := 1000152
def n_pile_items_Swap_q : FuncId := 1000153
def F_c_law17_ImageChecks : F := ⟨2, [.inl 4],
  (.seq (.reg [.zz 0] [⟨some 2, none, .bx (.k 0), [], 0⟩,
    ⟨some 4, none, .mv (.c (.b false)), [], 0⟩] false [1, 2] [2])
  (.seq (.seq (.reg [] [⟨some 6, none, .call n_c_law17_awake [], [], 0⟩,
    ⟨some 7, none, .un .not (.k 6), [], 0⟩] false [1, 2, 7] [2])
  (.cond 7 (.seq (.reg [] [⟨some 4, none, .mv (.c (.b false)), [], 0⟩] false [4] [])
  .ret)
  .skip))
  (.seq (.reg [] [⟨some 8, none, .ld true 6 .cp (.t 2), [], 2⟩,
    ⟨some 9, none, .call n_c_law17_Make [.k 8], [], 0⟩,
    ⟨some 10, none, .fa 5 (.t 2), [0, 1], 0⟩,
    ⟨some 11, none, .ld false 1 .cp (.k 10), [0, 1], 0⟩,
    ⟨some 12, none, .mv (.k 1), [0, 1, 2, 3], 0⟩,
    ⟨some 13, none, .call n_c_law17_spoilt [.k 9, .k 11, .k 12], [], 0⟩,
    ⟨some 5, none, .al ([.i .i64 0, .i .i64 0, .i .u64 0, .l .o 1 [], .l .o 1 []]), [0, 1, 2, 3, 4, 5], 0⟩,
    ⟨none, none, .st 5 (.t 5) (.k 13), [], 0⟩] true [2, 5] [2, 5])
  (.seq (.reg [] [⟨some 14, none, .ld true 5 .cp (.t 5), [], 2⟩,
    ⟨some 15, none, .call n_image_Image_Check [.k 14], [], 0⟩,
    ⟨some 16, none, .ld true 5 .cp (.t 5), [0, 1], 2⟩,
    ⟨some 17, none, .call n_c_law17_Told [.k 16], [], 2⟩,
    ⟨some 18, none, .call n_c_ref17_Check [.k 17], [], 0⟩,
    ⟨some 19, none, .bin .eql (.k 15) (.k 18), [], 0⟩,
    ⟨some 20, none, .mv (.k 19), [], 0⟩,
    ⟨some 21, some (20, true), .ld true 6 .cp (.k 2), [], 2⟩,
    ⟨some 22, some (20, true), .call n_c_law17_Make [.k 21], [], 2⟩,
    ⟨some 23, some (20, true), .call n_image_Image_Check [.k 22], [], 0⟩,
    ⟨some 24, some (20, true), .bin .eql (.k 23) (.c (.i .i64 0)), [], 0⟩,
    ⟨some 25, none, .pick (.t 20) (.k 24) (.c (.b false)), [], 0⟩,
    ⟨some 4, none, .mv (.k 25), [], 0⟩] true [4] [])
  .ret))))⟩

def F_c_law17_ImageShapes : F := ⟨3, [.inl 6],
  (.seq (.reg [] [⟨some 6, none, .mv (.c (.b false)), [], 0⟩] false [0, 1, 2] [])
  (.seq (.seq (.reg [] [⟨some 12, none, .call n_c_law17_awake [], [], 0⟩,
    ⟨some 13, none, .un .not (.k 12), [], 0⟩] false [0, 1, 2, 13] [])
  (.cond 13 (.seq (.reg [] [⟨some 6, none, .mv (.c (.b false)), [], 0⟩] false [6] [])
  .ret)
  .skip))
  (.seq (.reg [] [⟨some 15, none, .mv (.t 0), [], 0⟩,
    ⟨some 16, none, .mv (.t 1), [], 0⟩,
    ⟨some 17, none, .call n_image_Shape [.k 15, .k 16], [], 0⟩,
    ⟨some 14, none, .mv (.k 17), [], 0⟩,
    ⟨some 18, none, .ex false 0 14, [], 0⟩,
    ⟨some 19, none, .ex false 1 14, [], 0⟩,
    ⟨some 7, none, .mv (.k 18), [], 0⟩,
    ⟨some 8, none, .mv (.k 19), [], 0⟩] false [0, 1, 2, 7, 8] [])
  (.seq (.reg [] [⟨some 9, none, .mv (.c (.i .i64 0)), [], 0⟩,
    ⟨some 10, none, .mv (.c (.i .i64 0)), [], 0⟩] false [0, 1, 2, 7, 8, 9, 10] [])
  (.seq (.seq (.reg [] [⟨some 20, none, .mv (.k 0), [], 0⟩] false [1, 2, 7, 8, 9, 10, 20] [])
  (.blk 0 (.seq (.reg [] [⟨some 22, none, .bin .eql (.t 20) (.c (.i .i64 1)), [], 0⟩,
    ⟨some 21, none, .mv (.k 22), [], 0⟩] false [1, 2, 7, 8, 9, 10, 20, 21] [])
  (.cond 21 (.reg [] [⟨some 23, none, .mv (.k 1), [], 0⟩,
    ⟨some 9, none, .mv (.k 23), [], 0⟩] false [2, 7, 8, 9, 10] [])
  (.seq (.reg [] [⟨some 25, none, .bin .eql (.t 20) (.c (.i .i64 2)), [], 0⟩,
    ⟨some 24, none, .mv (.k 25), [], 0⟩] false [1, 2, 7, 8, 9, 10, 20, 24] [])
  (.cond 24 (.reg [] [⟨some 9, none, .mv (.c (.i .i64 1)), [], 0⟩] false [2, 7, 8, 9, 10] [])
  (.seq (.reg [] [⟨some 27, none, .bin .eql (.t 20) (.c (.i .i64 3)), [], 0⟩,
    ⟨some 26, none, .mv (.k 27), [], 0⟩] false [1, 2, 7, 8, 9, 10, 20, 26] [])
  (.cond 26 (.reg [] [⟨some 28, none, .mv (.k 1), [], 0⟩,
    ⟨some 10, none, .mv (.k 28), [], 0⟩] false [2, 7, 8, 9, 10] [])
  (.seq (.reg [] [⟨some 30, none, .bin .eql (.k 20) (.c (.i .i64 4)), [], 0⟩,
    ⟨some 29, none, .mv (.k 30), [], 0⟩] false [2, 7, 8, 9, 10, 29] [])
  (.cond 29 (.reg [] [⟨some 10, none, .mv (.c (.i .i64 1)), [], 0⟩] false [2, 7, 8, 9, 10] [])
  .skip))))))))))
  (.seq (.reg [] [⟨some 31, none, .mv (.t 2), [], 0⟩,
    ⟨some 32, none, .call n_image_Room [.k 31], [], 0⟩,
    ⟨some 11, none, .mv (.k 32), [], 0⟩] false [2, 7, 8, 9, 10, 11] [])
  (.seq (.reg [] [⟨some 33, none, .mv (.k 2), [], 0⟩,
    ⟨some 34, none, .mx true [.k 33, .c (.i .i64 1)], [], 0⟩,
    ⟨some 2, none, .mv (.k 34), [], 0⟩] false [2, 7, 8, 9, 10, 11] [])
  (.seq (.reg [] [⟨some 35, none, .mv (.k 7), [], 0⟩,
    ⟨some 36, none, .mv (.k 9), [], 0⟩,
    ⟨some 37, none, .bin .eql (.k 35) (.k 36), [], 0⟩,
    ⟨some 38, none, .mv (.k 37), [], 0⟩,
    ⟨some 39, some (38, true), .mv (.k 8), [], 0⟩,
    ⟨some 40, some (38, true), .mv (.k 10), [], 0⟩,
    ⟨some 41, some (38, true), .bin .eql (.k 39) (.k 40), [], 0⟩,
    ⟨some 42, none, .pick (.k 38) (.k 41) (.c (.b false)), [], 0⟩,
    ⟨some 43, none, .mv (.k 42), [], 0⟩,
    ⟨some 44, some (43, true), .mv (.t 11), [], 0⟩,
    ⟨some 45, some (43, true), .bin .geq (.k 44) (.c (.i .i64 0)), [], 0⟩,
    ⟨some 46, none, .pick (.k 43) (.k 45) (.c (.b false)), [], 0⟩,
    ⟨some 47, none, .mv (.k 46), [], 0⟩,
    ⟨some 48, some (47, true), .mv (.t 11), [], 0⟩,
    ⟨some 49, some (47, true), .bin .leq (.k 48) (.c (.i .i64 998)), [], 0⟩,
    ⟨some 50, none, .pick (.k 47) (.k 49) (.c (.b false)), [], 0⟩,
    ⟨some 51, none, .mv (.k 50), [], 0⟩,
    ⟨some 52, some (51, true), .mv (.t 11), [], 0⟩,
    ⟨some 53, some (51, true), .mv (.t 2), [], 0⟩,
    ⟨some 54, some (51, true), .bin .rem (.k 52) (.k 53), [], 0⟩,
    ⟨some 55, some (51, true), .bin .eql (.k 54) (.c (.i .i64 0)), [], 0⟩,
    ⟨some 56, none, .pick (.k 51) (.k 55) (.c (.b false)), [], 0⟩,
    ⟨some 57, none, .mv (.k 56), [], 0⟩,
    ⟨some 58, some (57, true), .mv (.t 2), [], 0⟩,
    ⟨some 59, some (57, true), .bin .gtr (.k 58) (.c (.i .i64 998)), [], 0⟩,
    ⟨some 60, some (57, true), .mv (.k 59), [], 0⟩,
    ⟨some 61, some (60, false), .mv (.k 11), [], 0⟩,
    ⟨some 62, some (60, false), .mv (.k 2), [], 0⟩,
    ⟨some 63, some (60, false), .bin .sub (.c (.i .i64 998)) (.k 62), [], 0⟩,
    ⟨some 64, some (60, false), .bin .gtr (.k 61) (.k 63), [], 0⟩,
    ⟨some 65, some (57, true), .pick (.k 60) (.c (.b true)) (.k 64), [], 0⟩,
    ⟨some 66, none, .pick (.k 57) (.k 65) (.c (.b false)), [], 0⟩,
    ⟨some 6, none, .mv (.k 66), [], 0⟩] false [6] [])
  .ret))))))))⟩

def F_c_law19_SectionReads : F := ⟨3, [.inl 6],
  (.seq (.reg [] [⟨some 6, none, .mv (.c (.b false)), [], 0⟩] false [0, 1, 2] [])
  (.seq (.reg [] [⟨some 13, none, .mv (.k 1), [], 0⟩,
    ⟨some 14, none, .call n_c_law01_Cut [.k 13, .c (.i .i64 40)], [], 0⟩,
    ⟨some 15, none, .mv (.k 2), [], 0⟩,
    ⟨some 16, none, .call n_c_law01_Cut [.k 15, .c (.i .i64 400)], [], 0⟩,
    ⟨some 1, none, .mv (.k 14), [], 0⟩,
    ⟨some 2, none, .mv (.k 16), [], 0⟩] false [0, 1, 2] [])
  (.seq (.seq (.reg [] [⟨some 17, none, .call n_c_law19_awake [], [], 0⟩,
    ⟨some 18, none, .un .not (.k 17), [], 0⟩] false [0, 1, 2, 18] [])
  (.cond 18 (.seq (.reg [] [⟨some 6, none, .mv (.c (.b false)), [], 0⟩] false [6] [])
  .ret)
  .skip))
  (.seq (.reg [] [⟨some 19, none, .mv (.k 0), [], 0⟩,
    ⟨some 20, none, .bin .and (.k 19) (.c (.i .i64 255)), [], 0⟩,
    ⟨some 21, none, .bin .rem (.k 20) (.c (.i .i64 4)), [], 0⟩,
    ⟨some 22, none, .bin .add (.c (.i .i64 1)) (.k 21), [], 0⟩,
    ⟨some 0, none, .mv (.k 22), [], 0⟩] false [0, 1, 2] [])
  (.seq (.reg [] [⟨some 23, none, .mv (.t 1), [], 0⟩,
    ⟨some 24, none, .bd ([.i .i64 0, .s ⟨#[]⟩]) [(0, 1, .c (.i .i64 1)), (1, 1, .k 23)], [], 0⟩,
    ⟨some 25, none, .mv (.t 2), [], 0⟩,
    ⟨some 26, none, .bd ([.i .i64 0, .s ⟨#[]⟩]) [(0, 1, .c (.i .i64 2)), (1, 1, .k 25)], [], 0⟩,
    ⟨some 27, none, .bs 2 2 (.a ([.i .i64 0, .s ⟨#[]⟩])) [(0, .k 24), (1, .k 26)], [], 1⟩,
    ⟨some 7, none, .mv (.k 27), [], 0⟩] false [0, 1, 2, 7] [])
  (.seq (.reg [] [⟨some 29, none, .mv (.t 0), [], 0⟩,
    ⟨some 30, none, .mv (.t 7), [], 2⟩,
    ⟨some 31, none, .call n_section_Read [.k 29, .k 30], [], 0⟩,
    ⟨some 28, none, .mv (.k 31), [], 0⟩,
    ⟨some 32, none, .ex false 0 28, [], 0⟩,
    ⟨some 33, none, .ex false 1 28, [], 0⟩,
    ⟨some 8, none, .al ([.i .i64 0, .i .i64 0, .i .u64 0, .l .o 1 [], .l .o 1 []]), [], 0⟩,
    ⟨none, none, .st 5 (.t 8) (.k 32), [], 0⟩,
    ⟨some 9, none, .mv (.k 33), [], 0⟩] false [0, 1, 2, 7, 8, 9] [8])
  (.seq (.reg [] [⟨some 35, none, .mv (.k 0), [], 0⟩,
    ⟨some 36, none, .mv (.k 1), [], 0⟩,
    ⟨some 37, none, .mv (.k 2), [], 0⟩,
    ⟨some 38, none, .call n_c_ref19_Read [.k 35, .k 36, .k 37], [], 0⟩,
    ⟨some 34, none, .mv (.k 38), [], 0⟩,
    ⟨some 39, none, .ex false 0 34, [], 0⟩,
    ⟨some 40, none, .ex false 1 34, [], 0⟩,
    ⟨some 10, none, .al ([.i .i64 0, .i .i64 0, .i .u64 0, .l .o 1 [], .l .o 1 []]), [], 0⟩,
    ⟨none, none, .st 5 (.t 10) (.k 39), [], 0⟩,
    ⟨some 11, none, .mv (.k 40), [], 0⟩] false [7, 8, 9, 10, 11] [8, 10])
  (.seq (.seq (.reg [] [⟨some 41, none, .mv (.t 11), [], 0⟩,
    ⟨some 42, none, .bin .neq (.k 41) (.c (.i .i64 0)), [], 0⟩] false [7, 8, 9, 10, 11, 42] [8, 10])
  (.cond 42 (.seq (.reg [] [⟨some 43, none, .mv (.k 9), [], 0⟩,
    ⟨some 44, none, .mv (.k 11), [], 0⟩,
    ⟨some 45, none, .bin .eql (.k 43) (.k 44), [], 0⟩,
    ⟨some 46, none, .mv (.k 45), [], 0⟩,
    ⟨some 47, some (46, true), .fa 0 (.t 8), [], 0⟩,
    ⟨some 48, some (46, true), .ld false 1 .cp (.k 47), [], 0⟩,
    ⟨some 49, some (46, true), .bin .eql (.k 48) (.c (.i .i64 0)), [], 0⟩,
    ⟨some 50, none, .pick (.k 46) (.k 49) (.c (.b false)), [], 0⟩,
    ⟨some 51, none, .mv (.k 50), [], 0⟩,
    ⟨some 52, some (51, true), .fa 3 (.t 8), [], 0⟩,
    ⟨some 53, some (51, true), .ld false 1 .cp (.k 52), [], 0⟩,
    ⟨some 54, some (51, true), .len false (.k 53), [], 0⟩,
    ⟨some 55, some (51, true), .fa 4 (.k 8), [], 0⟩,
    ⟨some 56, some (51, true), .ld false 1 .tk (.k 55), [], 0⟩,
    ⟨some 57, some (51, true), .len false (.k 56), [], 0⟩,
    ⟨some 58, some (51, true), .bin .add (.k 54) (.k 57), [], 0⟩,
    ⟨some 59, some (51, true), .bin .eql (.k 58) (.c (.i .i64 0)), [], 0⟩,
    ⟨some 60, none, .pick (.k 51) (.k 59) (.c (.b false)), [], 0⟩,
    ⟨some 6, none, .mv (.k 60), [], 0⟩] false [6] [])
  .ret)
  .skip))
  (.seq (.seq (.reg [] [⟨some 61, none, .mv (.k 9), [], 0⟩,
    ⟨some 62, none, .bin .neq (.k 61) (.c (.i .i64 0)), [], 0⟩,
    ⟨some 63, none, .mv (.k 62), [], 0⟩,
    ⟨some 64, some (63, false), .ld true 5 .cp (.t 8), [], 2⟩,
    ⟨some 65, some (63, false), .ld true 5 .tk (.k 10), [], 2⟩,
    ⟨some 66, some (63, false), .call n_c_law18_Is [.k 64, .k 65], [], 0⟩,
    ⟨some 67, some (63, false), .bin .neq (.k 66) (.c (.i .i64 0)), [], 0⟩,
    ⟨some 68, none, .pick (.k 63) (.c (.b true)) (.k 67), [], 0⟩] false [7, 8, 68] [8])
  (.cond 68 (.seq (.reg [] [⟨some 6, none, .mv (.c (.b false)), [], 0⟩] false [6] [])
  .ret)
  .skip))
  (.seq (.reg [] [⟨some 69, none, .ld true 5 .tk (.k 8), [], 2⟩,
    ⟨some 70, none, .call n_section_Of [.k 69], [], 0⟩,
    ⟨some 12, none, .mv (.k 70), [], 0⟩] false [7, 12] [])
  (.seq (.reg [] [⟨some 71, none, .mv (.t 12), [], 0⟩,
    ⟨some 72, none, .len false (.k 71), [], 0⟩,
    ⟨some 73, none, .bin .eql (.k 72) (.c (.i .i64 2)), [], 0⟩,
    ⟨some 74, none, .mv (.k 73), [], 0⟩,
    ⟨some 75, some (74, true), .mv (.t 12), [], 0⟩,
    ⟨some 76, some (74, true), .ia 2 none (.k 75) (.c (.i .i64 0)), [], 0⟩,
    ⟨some 77, some (74, true), .ld true 2 .cp (.k 76), [], 0⟩,
    ⟨some 78, some (74, true), .mv (.t 7), [4, 5, 6], 0⟩,
    ⟨some 79, some (74, true), .ia 2 none (.k 78) (.c (.i .i64 0)), [4, 5, 6], 0⟩,
    ⟨some 80, some (74, true), .ld true 2 .cp (.k 79), [4, 5, 6], 0⟩,
    ⟨some 81, some (74, true), .eqa false [.it, .st] (.k 77) (.k 80), [], 0⟩,
    ⟨some 82, none, .pick (.t 74) (.k 81) (.c (.b false)), [], 0⟩,
    ⟨some 83, none, .mv (.k 82), [], 0⟩,
    ⟨some 84, some (83, true), .mv (.t 12), [], 0⟩,
    ⟨some 85, some (83, true), .ia 2 none (.k 84) (.c (.i .i64 1)), [], 0⟩,
    ⟨some 86, some (83, true), .ld true 2 .cp (.k 85), [], 0⟩,
    ⟨some 87, some (83, true), .mv (.t 7), [13, 14, 15], 0⟩,
    ⟨some 88, some (83, true), .ia 2 none (.k 87) (.c (.i .i64 1)), [13, 14, 15], 0⟩,
    ⟨some 89, some (83, true), .ld true 2 .cp (.k 88), [13, 14, 15], 0⟩,
    ⟨some 90, some (83, true), .eqa false [.it, .st] (.k 86) (.k 89), [], 0⟩,
    ⟨some 91, none, .pick (.t 83) (.k 90) (.c (.b false)), [], 0⟩,
    ⟨some 6, none, .mv (.k 91), [], 0⟩] true [6] [])
  .ret)))))))))))⟩

def F_c_law19_SectionShapes : F := ⟨4, [.inl 8],
  (.seq (.reg [] [⟨some 8, none, .mv (.c (.b false)), [], 0⟩] false [0, 1, 2, 3] [])
  (.seq (.seq (.reg [] [⟨some 12, none, .call n_c_law19_awake [], [], 0⟩,
    ⟨some 13, none, .un .not (.k 12), [], 0⟩] false [0, 1, 2, 3, 13] [])
  (.cond 13 (.seq (.reg [] [⟨some 8, none, .mv (.c (.b false)), [], 0⟩] false [8] [])
  .ret)
  .skip))
  (.seq (.reg [] [⟨some 14, none, .mv (.t 1), [], 0⟩,
    ⟨some 15, none, .bd ([.i .i64 0, .s ⟨#[]⟩]) [(0, 1, .k 14), (1, 1, .c (.s ⟨#[1, 0]⟩))], [], 0⟩,
    ⟨some 16, none, .mv (.t 2), [], 0⟩,
    ⟨some 17, none, .bd ([.i .i64 0, .s ⟨#[]⟩]) [(0, 1, .k 16), (1, 1, .c (.s ⟨#[0]⟩))], [], 0⟩,
    ⟨some 18, none, .bd ([.i .i64 0, .s ⟨#[]⟩]) [(0, 1, .c (.i .i64 3))], [], 0⟩,
    ⟨some 19, none, .bs 2 3 (.a ([.i .i64 0, .s ⟨#[]⟩])) [(0, .k 15), (1, .k 17), (2, .k 18)], [], 1⟩,
    ⟨some 20, none, .mv (.k 3), [], 0⟩,
    ⟨some 21, none, .bin .and (.k 20) (.c (.i .i64 255)), [], 0⟩,
    ⟨some 22, none, .bin .rem (.k 21) (.c (.i .i64 3)), [], 0⟩,
    ⟨some 23, none, .bin .add (.c (.i .i64 1)) (.k 22), [], 0⟩,
    ⟨some 24, none, .sl 2 (.k 19) none (some (.k 23)) none, [], 0⟩,
    ⟨some 9, none, .mv (.k 24), [], 0⟩] false [0, 1, 2, 9] [])
  (.seq (.reg [] [⟨some 26, none, .mv (.t 0), [], 0⟩,
    ⟨some 27, none, .mv (.t 9), [], 2⟩,
    ⟨some 28, none, .call n_section_Read [.k 26, .k 27], [], 0⟩,
    ⟨some 25, none, .mv (.k 28), [], 0⟩,
    ⟨some 29, none, .ex false 0 25, [], 0⟩,
    ⟨some 30, none, .ex false 1 25, [], 0⟩,
    ⟨some 10, none, .al ([.i .i64 0, .i .i64 0, .i .u64 0, .l .o 1 [], .l .o 1 []]), [], 0⟩,
    ⟨none, none, .st 5 (.t 10) (.k 29), [], 0⟩,
    ⟨some 11, none, .mv (.k 30), [], 0⟩] false [0, 1, 2, 9, 10, 11] [10])
  (.seq (.blk 0 (.seq (.reg [] [⟨some 32, none, .mv (.t 0), [], 0⟩,
    ⟨some 33, none, .bin .lss (.k 32) (.c (.i .i64 1)), [], 0⟩,
    ⟨some 34, none, .mv (.k 33), [], 0⟩,
    ⟨some 35, some (34, false), .mv (.t 0), [], 0⟩,
    ⟨some 36, some (34, false), .bin .gtr (.k 35) (.c (.i .i64 4)), [], 0⟩,
    ⟨some 37, none, .pick (.k 34) (.c (.b true)) (.k 36), [], 0⟩,
    ⟨some 31, none, .mv (.k 37), [], 0⟩] false [0, 1, 2, 9, 10, 11, 31] [10])
  (.cond 31 (.seq (.reg [] [⟨some 38, none, .mv (.k 11), [], 0⟩,
    ⟨some 39, none, .bin .eql (.k 38) (.c (.i .i64 6)), [], 0⟩,
    ⟨some 40, none, .mv (.k 39), [], 0⟩,
    ⟨some 41, some (40, true), .fa 0 (.k 10), [], 0⟩,
    ⟨some 42, some (40, true), .ld false 1 .cp (.k 41), [], 0⟩,
    ⟨some 43, some (40, true), .bin .eql (.k 42) (.c (.i .i64 0)), [], 0⟩,
    ⟨some 44, none, .pick (.k 40) (.k 43) (.c (.b false)), [], 0⟩,
    ⟨some 8, none, .mv (.k 44), [], 0⟩] false [8] [])
  .ret)
  (.seq (.reg [] [⟨some 46, none, .mv (.k 9), [], 0⟩,
    ⟨some 47, none, .len false (.k 46), [], 0⟩,
    ⟨some 48, none, .bin .neq (.k 47) (.c (.i .i64 2)), [], 0⟩,
    ⟨some 49, none, .mv (.k 48), [], 0⟩,
    ⟨some 50, some (49, false), .mv (.k 1), [], 0⟩,
    ⟨some 51, some (49, false), .bin .neq (.k 50) (.c (.i .i64 1)), [], 0⟩,
    ⟨some 52, none, .pick (.k 49) (.c (.b true)) (.k 51), [], 0⟩,
    ⟨some 53, none, .mv (.k 52), [], 0⟩,
    ⟨some 54, some (53, false), .mv (.k 2), [], 0⟩,
    ⟨some 55, some (53, false), .bin .neq (.k 54) (.c (.i .i64 2)), [], 0⟩,
    ⟨some 56, none, .pick (.k 53) (.c (.b true)) (.k 55), [], 0⟩,
    ⟨some 45, none, .mv (.k 56), [], 0⟩] false [0, 10, 11, 45] [10])
  (.cond 45 (.seq (.reg [] [⟨some 57, none, .mv (.k 11), [], 0⟩,
    ⟨some 58, none, .bin .eql (.k 57) (.c (.i .i64 2)), [], 0⟩,
    ⟨some 59, none, .mv (.k 58), [], 0⟩,
    ⟨some 60, some (59, true), .fa 0 (.k 10), [], 0⟩,
    ⟨some 61, some (59, true), .ld false 1 .cp (.k 60), [], 0⟩,
    ⟨some 62, some (59, true), .bin .eql (.k 61) (.c (.i .i64 0)), [], 0⟩,
    ⟨some 63, none, .pick (.k 59) (.k 62) (.c (.b false)), [], 0⟩,
    ⟨some 8, none, .mv (.k 63), [], 0⟩] false [8] [])
  .ret)
  .skip)))))
  (.seq (.reg [] [⟨some 64, none, .mv (.k 11), [], 0⟩,
    ⟨some 65, none, .bin .eql (.k 64) (.c (.i .i64 0)), [], 0⟩,
    ⟨some 66, none, .mv (.k 65), [], 0⟩,
    ⟨some 67, some (66, true), .fa 0 (.t 10), [], 0⟩,
    ⟨some 68, some (66, true), .ld false 1 .cp (.k 67), [], 0⟩,
    ⟨some 69, some (66, true), .mv (.k 0), [], 0⟩,
    ⟨some 70, some (66, true), .bin .eql (.k 68) (.k 69), [], 0⟩,
    ⟨some 71, none, .pick (.k 66) (.k 70) (.c (.b false)), [], 0⟩,
    ⟨some 72, none, .mv (.k 71), [], 0⟩,
    ⟨some 73, some (72, true), .fa 1 (.k 10), [], 0⟩,
    ⟨some 74, some (72, true), .ld false 1 .cp (.k 73), [], 0⟩,
    ⟨some 75, some (72, true), .bin .eql (.k 74) (.c (.i .i64 1)), [], 0⟩,
    ⟨some 76, none, .pick (.k 72) (.k 75) (.c (.b false)), [], 0⟩,
    ⟨some 8, none, .mv (.k 76), [], 0⟩] false [8] [])
  .ret))))))⟩

def F_c_law17_ImageValues : F := ⟨3, [.inl 6],
  (.seq (.reg [.zz 0, .zz 1] [⟨some 3, none, .bx (.k 0), [], 0⟩,
    ⟨some 4, none, .bx (.k 1), [], 0⟩,
    ⟨some 6, none, .mv (.c (.b false)), [], 0⟩] false [2, 3, 4] [3, 4])
  (.seq (.seq (.reg [] [⟨some 9, none, .call n_c_law17_awake [], [], 0⟩,
    ⟨some 10, none, .un .not (.k 9), [], 0⟩] false [2, 3, 4, 10] [3, 4])
  (.cond 10 (.seq (.reg [] [⟨some 6, none, .mv (.c (.b false)), [], 0⟩] false [6] [])
  .ret)
  .skip))
  (.seq (.seq (.reg [] [⟨some 11, none, .mv (.k 2), [], 0⟩] false [3, 4, 11] [3, 4])
  (.cond 11 (.reg [] [⟨some 12, none, .ld true 6 .cp (.t 3), [], 0⟩,
    ⟨none, none, .st 6 (.t 4) (.k 12), [], 0⟩] false [3, 4] [3, 4])
  .skip))
  (.seq (.reg [] [⟨some 13, none, .ld true 6 .cp (.k 3), [], 2⟩,
    ⟨some 14, none, .call n_c_law17_Make [.k 13], [], 1⟩,
    ⟨some 15, none, .ld true 6 .cp (.k 4), [0, 1], 2⟩,
    ⟨some 16, none, .call n_c_law17_Make [.k 15], [], 1⟩,
    ⟨some 7, none, .al ([.i .i64 0, .i .i64 0, .i .u64 0, .l .o 1 [], .l .o 1 []]), [0, 1, 2, 3], 0⟩,
    ⟨some 8, none, .al ([.i .i64 0, .i .i64 0, .i .u64 0, .l .o 1 [], .l .o 1 []]), [0, 1, 2, 3, 4], 0⟩,
    ⟨none, none, .st 5 (.t 7) (.k 14), [], 0⟩,
    ⟨none, none, .st 5 (.t 8) (.k 16), [], 0⟩] true [7, 8] [7, 8])
  (.seq (.reg [] [⟨some 17, none, .ld true 5 .cp (.t 7), [], 2⟩,
    ⟨some 18, none, .call n_image_Image_Value [.k 17], [], 2⟩,
    ⟨some 19, none, .ld true 5 .cp (.t 7), [0, 1], 2⟩,
    ⟨some 20, none, .call n_c_law17_Told [.k 19], [], 2⟩,
    ⟨some 21, none, .call n_c_ref17_Value [.k 20], [], 2⟩,
    ⟨some 22, none, .call n_c_law12_Is [.k 18, .k 21], [], 0⟩,
    ⟨some 23, none, .bin .eql (.k 22) (.c (.i .i64 0)), [], 0⟩,
    ⟨some 24, none, .mv (.k 23), [], 0⟩,
    ⟨some 25, some (24, true), .ld true 5 .cp (.t 7), [], 2⟩,
    ⟨some 26, some (24, true), .ld true 5 .cp (.t 8), [8], 2⟩,
    ⟨some 27, some (24, true), .call n_image_Image_Same [.k 25, .k 26], [], 0⟩,
    ⟨some 28, some (24, true), .ld true 5 .cp (.t 7), [8, 9, 10], 2⟩,
    ⟨some 29, some (24, true), .call n_c_law17_Told [.k 28], [], 2⟩,
    ⟨some 30, some (24, true), .ld true 5 .cp (.t 8), [8, 9, 10, 11, 12], 2⟩,
    ⟨some 31, some (24, true), .call n_c_law17_Told [.k 30], [], 2⟩,
    ⟨some 32, some (24, true), .call n_c_ref17_Same [.k 29, .k 31], [], 0⟩,
    ⟨some 33, some (24, true), .bin .eql (.k 32) (.c (.i .i64 0)), [], 0⟩,
    ⟨some 34, some (24, true), .eq false .bo (.k 27) (.k 33), [], 0⟩,
    ⟨some 35, none, .pick (.t 24) (.k 34) (.c (.b false)), [], 0⟩,
    ⟨some 36, none, .mv (.k 35), [], 0⟩,
    ⟨some 37, some (36, true), .ld true 5 .cp (.t 7), [], 2⟩,
    ⟨some 38, some (36, true), .ld true 5 .cp (.t 7), [20], 2⟩,
    ⟨some 39, some (36, true), .call n_image_Image_Same [.k 37, .k 38], [], 0⟩,
    ⟨some 40, none, .pick (.t 36) (.k 39) (.c (.b false)), [], 0⟩,
    ⟨some 6, none, .mv (.k 40), [], 0⟩] true [6] [])
  .ret)))))⟩

def F_c_law19_SectionMany : F := ⟨2, [.inl 4],
  (.seq (.reg [] [⟨some 4, none, .mv (.c (.b false)), [], 0⟩] false [0, 1] [])
  (.seq (.seq (.reg [] [⟨some 9, none, .call n_c_law19_awake [], [], 0⟩,
    ⟨some 10, none, .un .not (.k 9), [], 0⟩] false [0, 1, 10] [])
  (.cond 10 (.seq (.reg [] [⟨some 4, none, .mv (.c (.b false)), [], 0⟩] false [4] [])
  .ret)
  .skip))
  (.seq (.reg [] [⟨some 11, none, .mv (.k 0), [], 0⟩,
    ⟨some 12, none, .bin .and (.k 11) (.c (.i .i64 2047)), [], 0⟩,
    ⟨some 0, none, .mv (.k 12), [], 0⟩] false [0, 1] [])
  (.seq (.reg [] [⟨some 13, none, .mv (.t 0), [], 0⟩,
    ⟨some 14, none, .mx false [.k 13, .c (.i .i64 1200)], [], 0⟩,
    ⟨some 15, none, .ms 2 16 (.a ([.f .f64 0, .i .i64 0])) (.t 14) (.t 14), [], 1⟩,
    ⟨some 16, none, .bs 1 1 (.l .o 2 []) [(0, .k 15)], [], 1⟩,
    ⟨some 17, none, .bd ([.i .i64 0, .i .i64 0, .i .u64 0, .l .o 1 [], .l .o 1 []]) [(0, 1, .c (.i .i64 2)), (1, 1, .c (.i .i64 1)), (3, 1, .k 16)], [], 0⟩,
    ⟨some 5, none, .al ([.i .i64 0, .i .i64 0, .i .u64 0, .l .o 1 [], .l .o 1 []]), [], 0⟩,
    ⟨none, none, .st 5 (.t 5) (.k 17), [], 0⟩] false [0, 1, 5] [5])
  (.seq (.reg [] [⟨some 19, none, .ld true 5 .cp (.t 5), [], 2⟩,
    ⟨some 20, none, .call n_section_Of [.k 19], [], 2⟩,
    ⟨some 21, none, .call n_section_Read [.c (.i .i64 2), .k 20], [], 0⟩,
    ⟨some 18, none, .mv (.k 21), [], 0⟩,
    ⟨some 22, none, .ex false 0 18, [], 0⟩,
    ⟨some 23, none, .ex false 1 18, [], 0⟩,
    ⟨some 6, none, .al ([.i .i64 0, .i .i64 0, .i .u64 0, .l .o 1 [], .l .o 1 []]), [], 0⟩,
    ⟨none, none, .st 5 (.t 6) (.k 22), [], 0⟩,
    ⟨some 7, none, .mv (.k 23), [], 0⟩] false [0, 1, 5, 6, 7] [5, 6])
  (.seq (.seq (.reg [] [⟨some 24, none, .mv (.t 7), [], 0⟩,
    ⟨some 25, none, .bin .eql (.k 24) (.c (.i .i64 0)), [], 0⟩,
    ⟨some 26, none, .mv (.k 0), [], 0⟩,
    ⟨some 27, none, .bin .leq (.k 26) (.c (.i .i64 1000)), [], 0⟩,
    ⟨some 28, none, .eq true .bo (.k 25) (.k 27), [], 0⟩,
    ⟨some 29, none, .mv (.k 28), [], 0⟩,
    ⟨some 30, some (29, false), .mv (.t 7), [], 0⟩,
    ⟨some 31, some (29, false), .bin .neq (.k 30) (.c (.i .i64 0)), [], 0⟩,
    ⟨some 32, some (29, false), .mv (.k 31), [], 0⟩,
    ⟨some 33, some (32, true), .mv (.t 7), [], 0⟩,
    ⟨some 34, some (32, true), .bin .neq (.k 33) (.c (.i .i64 3)), [], 0⟩,
    ⟨some 35, some (29, false), .pick (.k 32) (.k 34) (.c (.b false)), [], 0⟩,
    ⟨some 36, none, .pick (.k 29) (.c (.b true)) (.k 35), [], 0⟩,
    ⟨some 37, none, .mv (.k 36), [], 0⟩,
    ⟨some 38, some (37, false), .mv (.k 7), [], 0⟩,
    ⟨some 39, some (37, false), .bin .eql (.k 38) (.c (.i .i64 0)), [], 0⟩,
    ⟨some 40, some (37, false), .mv (.k 39), [], 0⟩,
    ⟨some 41, some (40, true), .ld true 5 .cp (.t 6), [], 2⟩,
    ⟨some 42, some (40, true), .ld true 5 .tk (.k 5), [], 2⟩,
    ⟨some 43, some (40, true), .call n_image_Image_Same [.k 41, .k 42], [], 0⟩,
    ⟨some 44, some (40, true), .un .not (.k 43), [], 0⟩,
    ⟨some 45, some (37, false), .pick (.k 40) (.k 44) (.c (.b false)), [], 0⟩,
    ⟨some 46, none, .pick (.k 37) (.c (.b true)) (.k 45), [], 0⟩] false [1, 6, 46] [6])
  (.cond 46 (.seq (.reg [] [⟨some 4, none, .mv (.c (.b false)), [], 0⟩] false [4] [])
  .ret)
  .skip))
  (.seq (.reg [] [⟨some 47, none, .mv (.k 1), [], 0⟩,
    ⟨some 48, none, .mx true [.k 47, .c (.i .i64 0)], [], 0⟩,
    ⟨some 1, none, .mv (.k 48), [], 0⟩] false [1, 6] [6])
  (.seq (.reg [] [⟨some 49, none, .mv (.t 1), [], 0⟩,
    ⟨some 50, none, .bs 1 1 (.i .i64 0) [(0, .k 49)], [], 1⟩,
    ⟨some 51, none, .bd ([.i .i64 0, .i .i64 0, .i .u64 0, .l .o 1 [], .l .o 1 []]) [(0, 1, .c (.i .i64 4)), (1, 1, .c (.i .i64 1)), (4, 1, .k 50)], [], 0⟩,
    ⟨some 8, none, .al ([.i .i64 0, .i .i64 0, .i .u64 0, .l .o 1 [], .l .o 1 []]), [], 0⟩,
    ⟨none, none, .st 5 (.t 8) (.k 51), [], 0⟩] false [1, 6, 8] [6, 8])
  (.seq (.reg [] [⟨some 53, none, .ld true 5 .cp (.t 8), [], 2⟩,
    ⟨some 54, none, .call n_section_Of [.k 53], [], 2⟩,
    ⟨some 55, none, .call n_section_Read [.c (.i .i64 4), .k 54], [], 0⟩,
    ⟨some 52, none, .mv (.k 55), [], 0⟩,
    ⟨some 56, none, .ex false 0 52, [], 0⟩,
    ⟨some 57, none, .ex false 1 52, [], 0⟩,
    ⟨none, none, .st 5 (.t 6) (.k 56), [], 0⟩,
    ⟨some 7, none, .mv (.k 57), [], 0⟩] false [1, 6, 7, 8] [6, 8])
  (.seq (.seq (.reg [] [⟨some 58, none, .mv (.k 1), [], 0⟩,
    ⟨some 59, none, .bin .gtr (.k 58) (.c (.i .i64 1125899906842624)), [], 0⟩] false [6, 7, 8, 59] [6, 8])
  (.cond 59 (.seq (.reg [] [⟨some 60, none, .mv (.k 7), [], 0⟩,
    ⟨some 61, none, .bin .eql (.k 60) (.c (.i .i64 3)), [], 0⟩,
    ⟨some 62, none, .mv (.k 61), [], 0⟩,
    ⟨some 63, some (62, true), .fa 0 (.k 6), [], 0⟩,
    ⟨some 64, some (62, true), .ld false 1 .cp (.k 63), [], 0⟩,
    ⟨some 65, some (62, true), .bin .eql (.k 64) (.c (.i .i64 0)), [], 0⟩,
    ⟨some 66, none, .pick (.k 62) (.k 65) (.c (.b false)), [], 0⟩,
    ⟨some 4, none, .mv (.k 66), [], 0⟩] false [4] [])
  .ret)
  .skip))
  (.seq (.reg [] [⟨some 67, none, .mv (.k 7), [], 0⟩,
    ⟨some 68, none, .bin .eql (.k 67) (.c (.i .i64 0)), [], 0⟩,
    ⟨some 69, none, .mv (.k 68), [], 0⟩,
    ⟨some 70, some (69, true), .ld true 5 .tk (.k 6), [], 2⟩,
    ⟨some 71, some (69, true), .ld true 5 .tk (.k 8), [], 2⟩,
    ⟨some 72, some (69, true), .call n_image_Image_Same [.k 70, .k 71], [], 0⟩,
    ⟨some 73, none, .pick (.k 69) (.k 72) (.c (.b false)), [], 0⟩,
    ⟨some 4, none, .mv (.k 73), [], 0⟩] false [4] [])
  .ret)))))))))))⟩

def F_c_law19_SectionPuts : F := ⟨1, [.inl 2],
  (.seq (.reg [.zz 0] [⟨some 1, none, .bx (.k 0), [], 0⟩,
    ⟨some 2, none, .mv (.c (.b false)), [], 0⟩] false [1] [1])
  (.seq (.seq (.reg [] [⟨some 8, none, .call n_c_law19_awake [], [], 0⟩,
    ⟨some 9, none, .un .not (.k 8), [], 0⟩] false [1, 9] [1])
  (.cond 9 (.seq (.reg [] [⟨some 2, none, .mv (.c (.b false)), [], 0⟩] false [2] [])
  .ret)
  .skip))
  (.seq (.reg [] [⟨some 10, none, .ld true 6 .tk (.k 1), [], 2⟩,
    ⟨some 11, none, .call n_c_law17_Make [.k 10], [], 1⟩,
    ⟨some 3, none, .al ([.i .i64 0, .i .i64 0, .i .u64 0, .l .o 1 [], .l .o 1 []]), [], 0⟩,
    ⟨none, none, .st 5 (.t 3) (.k 11), [], 0⟩] false [3] [3])
  (.seq (.reg [] [⟨some 12, none, .ld true 5 .cp (.t 3), [], 2⟩,
    ⟨some 13, none, .call n_section_Of [.k 12], [], 0⟩,
    ⟨some 14, none, .ld true 5 .cp (.t 3), [0, 1], 2⟩,
    ⟨some 15, none, .call n_c_law17_Told [.k 14], [], 0⟩,
    ⟨some 5, none, .al ([.i .i64 0, .i .i64 0, .i .u64 0, .l .o 1 [], .l .o 1 []]), [0, 1, 2, 3], 0⟩,
    ⟨some 4, none, .mv (.k 13), [], 0⟩,
    ⟨none, none, .st 5 (.t 5) (.k 15), [], 0⟩] true [3, 4, 5] [3, 5])
  (.seq (.seq (.reg [] [⟨some 16, none, .mv (.t 4), [], 0⟩,
    ⟨some 17, none, .len false (.k 16), [], 0⟩,
    ⟨some 18, none, .bin .neq (.k 17) (.c (.i .i64 2)), [], 0⟩,
    ⟨some 19, none, .mv (.k 18), [], 0⟩,
    ⟨some 20, some (19, false), .mv (.t 4), [], 0⟩,
    ⟨some 21, some (19, false), .ia 2 none (.k 20) (.c (.i .i64 0)), [], 0⟩,
    ⟨some 22, some (19, false), .fa 0 (.k 21), [], 0⟩,
    ⟨some 23, some (19, false), .ld false 1 .cp (.k 22), [], 0⟩,
    ⟨some 24, some (19, false), .bin .neq (.k 23) (.c (.i .i64 1)), [], 0⟩,
    ⟨some 25, none, .pick (.t 19) (.c (.b true)) (.k 24), [], 0⟩,
    ⟨some 26, none, .mv (.k 25), [], 0⟩,
    ⟨some 27, some (26, false), .mv (.t 4), [], 0⟩,
    ⟨some 28, some (26, false), .ia 2 none (.k 27) (.c (.i .i64 1)), [], 0⟩,
    ⟨some 29, some (26, false), .fa 0 (.k 28), [], 0⟩,
    ⟨some 30, some (26, false), .ld false 1 .cp (.k 29), [], 0⟩,
    ⟨some 31, some (26, false), .bin .neq (.k 30) (.c (.i .i64 2)), [], 0⟩,
    ⟨some 32, none, .pick (.t 26) (.c (.b true)) (.k 31), [], 0⟩,
    ⟨some 33, none, .mv (.k 32), [], 0⟩,
    ⟨some 34, some (33, false), .mv (.t 4), [], 0⟩,
    ⟨some 35, some (33, false), .ia 2 none (.k 34) (.c (.i .i64 0)), [], 0⟩,
    ⟨some 36, some (33, false), .fa 1 (.k 35), [], 0⟩,
    ⟨some 37, some (33, false), .ld false 1 .cp (.k 36), [], 0⟩,
    ⟨some 38, some (33, false), .ld true 5 .cp (.t 5), [18, 19, 20, 21], 2⟩,
    ⟨some 39, some (33, false), .call n_c_ref19_Meta [.k 38], [18, 19, 20, 21], 0⟩,
    ⟨some 40, some (33, false), .bin .neq (.k 37) (.k 39), [], 0⟩,
    ⟨some 41, none, .pick (.t 33) (.c (.b true)) (.k 40), [], 0⟩,
    ⟨some 42, none, .mv (.k 41), [], 0⟩,
    ⟨some 43, some (42, false), .mv (.t 4), [], 0⟩,
    ⟨some 44, some (42, false), .ia 2 none (.k 43) (.c (.i .i64 1)), [], 0⟩,
    ⟨some 45, some (42, false), .fa 1 (.k 44), [], 0⟩,
    ⟨some 46, some (42, false), .ld false 1 .cp (.k 45), [], 0⟩,
    ⟨some 47, some (42, false), .ld true 5 .cp (.t 5), [27, 28, 29, 30], 2⟩,
    ⟨some 48, some (42, false), .call n_c_ref19_Data [.k 47], [27, 28, 29, 30], 0⟩,
    ⟨some 49, some (42, false), .bin .neq (.k 46) (.k 48), [], 0⟩,
    ⟨some 50, none, .pick (.t 42) (.c (.b true)) (.k 49), [], 0⟩] true [3, 4, 5, 50] [3, 5])
  (.cond 50 (.seq (.reg [] [⟨some 2, none, .mv (.c (.b false)), [], 0⟩] false [2] [])
  .ret)
  .skip))
  (.seq (.reg [] [⟨some 52, none, .fa 0 (.t 3), [], 0⟩,
    ⟨some 53, none, .ld false 1 .cp (.k 52), [], 0⟩,
    ⟨some 54, none, .mv (.k 4), [], 2⟩,
    ⟨some 55, none, .call n_section_Read [.k 53, .k 54], [], 0⟩,
    ⟨some 51, none, .mv (.k 55), [], 0⟩,
    ⟨some 56, none, .ex false 0 51, [], 0⟩,
    ⟨some 57, none, .ex false 1 51, [], 0⟩,
    ⟨some 6, none, .al ([.i .i64 0, .i .i64 0, .i .u64 0, .l .o 1 [], .l .o 1 []]), [], 0⟩,
    ⟨none, none, .st 5 (.t 6) (.k 56), [], 0⟩,
    ⟨some 7, none, .mv (.k 57), [], 0⟩] false [3, 5, 6, 7] [3, 5, 6])
  (.seq (.reg [] [⟨some 58, none, .mv (.k 7), [], 0⟩,
    ⟨some 59, none, .bin .eql (.k 58) (.c (.i .i64 0)), [], 0⟩,
    ⟨some 60, none, .mv (.k 59), [], 0⟩,
    ⟨some 61, some (60, true), .ld true 5 .cp (.t 6), [], 2⟩,
    ⟨some 62, some (60, true), .ld true 5 .cp (.t 3), [3], 2⟩,
    ⟨some 63, some (60, true), .call n_image_Image_Same [.k 61, .k 62], [], 0⟩,
    ⟨some 64, none, .pick (.t 60) (.k 63) (.c (.b false)), [], 0⟩,
    ⟨some 65, none, .mv (.k 64), [], 0⟩,
    ⟨some 66, some (65, true), .ld true 5 .cp (.t 6), [], 2⟩,
    ⟨some 67, some (65, true), .ld true 5 .cp (.t 5), [8], 2⟩,
    ⟨some 68, some (65, true), .call n_c_law18_Is [.k 66, .k 67], [], 0⟩,
    ⟨some 69, some (65, true), .bin .eql (.k 68) (.c (.i .i64 0)), [], 0⟩,
    ⟨some 70, none, .pick (.t 65) (.k 69) (.c (.b false)), [], 0⟩,
    ⟨some 71, none, .mv (.k 70), [], 0⟩,
    ⟨some 72, some (71, true), .fa 3 (.t 3), [], 0⟩,
    ⟨some 73, some (71, true), .ld false 1 .cp (.k 72), [], 0⟩,
    ⟨some 74, some (71, true), .len false (.k 73), [], 0⟩,
    ⟨some 75, some (71, true), .bin .eql (.k 74) (.c (.i .i64 0)), [], 0⟩,
    ⟨some 76, some (71, true), .mv (.k 75), [], 0⟩,
    ⟨some 77, some (76, false), .bs 1 2 (.i .u8 0) [(0, .c (.i .u8 97)), (1, .c (.i .u8 98))], [], 0⟩,
    ⟨some 78, some (76, false), .cv .mark (.k 77), [], 1⟩,
    ⟨some 79, some (76, false), .fa 3 (.t 3), [19, 20], 0⟩,
    ⟨some 80, some (76, false), .ld false 1 .cp (.k 79), [19, 20], 0⟩,
    ⟨some 81, some (76, false), .ia 1 none (.k 80) (.c (.i .i64 0)), [19, 20], 0⟩,
    ⟨some 82, some (76, false), .ld false 1 .cp (.k 81), [19, 20], 2⟩,
    ⟨some 83, some (76, false), .call n_section_Items [.k 78, .k 82], [], 0⟩,
    ⟨some 84, some (76, false), .cv .str (.k 83), [], 0⟩,
    ⟨some 85, some (76, false), .fa 3 (.t 5), [19, 20, 21, 22, 23, 24, 25, 26], 0⟩,
    ⟨some 86, some (76, false), .ld false 1 .cp (.k 85), [19, 20, 21, 22, 23, 24, 25, 26], 0⟩,
    ⟨some 87, some (76, false), .ia 1 none (.k 86) (.c (.i .i64 0)), [19, 20, 21, 22, 23, 24, 25, 26], 0⟩,
    ⟨some 88, some (76, false), .ld false 1 .cp (.k 87), [19, 20, 21, 22, 23, 24, 25, 26], 2⟩,
    ⟨some 89, some (76, false), .call n_c_ref19_Items [.k 88], [26], 0⟩,
    ⟨some 90, some (76, false), .bin .add (.c (.s ⟨#[97, 98]⟩)) (.k 89), [26], 0⟩,
    ⟨some 91, some (76, false), .bin .eql (.k 84) (.k 90), [], 0⟩,
    ⟨some 92, some (71, true), .pick (.t 76) (.c (.b true)) (.k 91), [], 0⟩,
    ⟨some 93, none, .pick (.t 71) (.k 92) (.c (.b false)), [], 0⟩,
    ⟨some 2, none, .mv (.k 93), [], 0⟩] true [2] [])
  .ret)))))))⟩

def F_c_law21_ElderVersions : F := ⟨3, [.inl 6],
  (.seq (.reg [] [⟨some 6, none, .mv (.c (.b false)), [], 0⟩] false [0, 1, 2] [])
  (.seq (.reg [] [⟨some 12, none, .mv (.k 0), [], 0⟩,
    ⟨some 13, none, .call n_c_law01_Cut [.k 12, .c (.i .i64 10)], [], 0⟩,
    ⟨some 0, none, .mv (.k 13), [], 0⟩] false [0, 1, 2] [])
  (.seq (.seq (.reg [] [⟨some 14, none, .mv (.k 1), [], 0⟩] false [0, 2, 14] [])
  (.cond 14 (.reg [] [⟨some 15, none, .mv (.k 0), [], 0⟩,
    ⟨some 16, none, .bin .add (.c (.s ⟨#[67, 82, 89, 79]⟩)) (.k 15), [], 0⟩,
    ⟨some 0, none, .mv (.k 16), [], 0⟩] false [0, 2] [])
  .skip))
  (.seq (.seq (.reg [] [⟨some 17, none, .mv (.k 2), [], 0⟩] false [0, 17] [])
  (.cond 17 (.seq (.reg [] [⟨some 7, none, .mv (.c (.i .i64 0)), [], 0⟩] false [0, 7] [])
  (.blk 0 (.loop (.seq (.seq (.reg [] [⟨some 18, none, .mv (.t 7), [], 0⟩,
    ⟨some 19, none, .bin .lss (.k 18) (.c (.i .i64 13)), [], 0⟩,
    ⟨some 20, none, .mv (.k 19), [], 0⟩,
    ⟨some 21, some (20, true), .mv (.t 0), [], 0⟩,
    ⟨some 22, some (20, true), .len true (.k 21), [], 0⟩,
    ⟨some 23, some (20, true), .bin .gtr (.k 22) (.c (.i .i64 0)), [], 0⟩,
    ⟨some 24, none, .pick (.k 20) (.k 23) (.c (.b false)), [], 0⟩] false [0, 7, 24] [])
  (.cond 24 .skip
  (.exit 0)))
  (.seq (.blk 1 (.reg [] [⟨some 27, none, .mv (.t 0), [], 0⟩,
    ⟨some 28, none, .mv (.k 0), [], 0⟩,
    ⟨some 29, none, .bin .add (.k 27) (.k 28), [], 0⟩,
    ⟨some 0, none, .mv (.k 29), [], 0⟩] false [0, 7] []))
  (.reg [] [⟨some 25, none, .mv (.k 7), [], 0⟩,
    ⟨some 26, none, .bin .add (.k 25) (.c (.i .i64 1)), [], 0⟩,
    ⟨some 7, none, .mv (.k 26), [], 0⟩] false [0, 7] []))))))
  .skip))
  (.seq (.seq (.reg [] [⟨some 30, none, .call n_c_law21_awake [], [], 0⟩,
    ⟨some 31, none, .un .not (.k 30), [], 0⟩] false [0, 31] [])
  (.cond 31 (.seq (.reg [] [⟨some 6, none, .mv (.c (.b false)), [], 0⟩] false [6] [])
  .ret)
  .skip))
  (.seq (.reg [] [⟨some 33, none, .mv (.t 0), [], 0⟩,
    ⟨some 34, none, .call n_elder_Version [.k 33], [], 0⟩,
    ⟨some 32, none, .mv (.k 34), [], 0⟩,
    ⟨some 35, none, .ex false 0 32, [], 0⟩,
    ⟨some 36, none, .ex false 1 32, [], 0⟩,
    ⟨some 8, none, .mv (.k 35), [], 0⟩,
    ⟨some 9, none, .mv (.k 36), [], 0⟩] false [0, 8, 9] [])
  (.seq (.reg [] [⟨some 38, none, .mv (.k 0), [], 0⟩,
    ⟨some 39, none, .call n_c_ref21_Version [.k 38], [], 0⟩,
    ⟨some 37, none, .mv (.k 39), [], 0⟩,
    ⟨some 40, none, .ex false 0 37, [], 0⟩,
    ⟨some 41, none, .ex false 1 37, [], 0⟩,
    ⟨some 10, none, .mv (.k 40), [], 0⟩,
    ⟨some 11, none, .mv (.k 41), [], 0⟩] false [8, 9, 10, 11] [])
  (.seq (.reg [] [⟨some 42, none, .mv (.k 8), [], 0⟩,
    ⟨some 43, none, .mv (.k 10), [], 0⟩,
    ⟨some 44, none, .bin .eql (.k 42) (.k 43), [], 0⟩,
    ⟨some 45, none, .mv (.k 44), [], 0⟩,
    ⟨some 46, some (45, true), .mv (.k 9), [], 0⟩,
    ⟨some 47, some (45, true), .mv (.k 11), [], 0⟩,
    ⟨some 48, some (45, true), .bin .eql (.k 46) (.k 47), [], 0⟩,
    ⟨some 49, none, .pick (.k 45) (.k 48) (.c (.b false)), [], 0⟩,
    ⟨some 6, none, .mv (.k 49), [], 0⟩] false [6] [])
  .ret))))))))⟩

def F_c_law20_FileSpoilt : F := ⟨7, [.inl 14],
  (.seq (.reg [.zz 0] [⟨some 7, none, .bx (.k 0), [], 0⟩,
    ⟨some 14, none, .mv (.c (.b false)), [], 0⟩] false [1, 2, 3, 4, 5, 6, 7] [7])
  (.seq (.seq (.reg [] [⟨some 18, none, .call n_c_law20_awake [], [], 0⟩,
    ⟨some 19, none, .un .not (.k 18), [], 0⟩] false [1, 2, 3, 4, 5, 6, 7, 19] [7])
  (.cond 19 (.seq (.reg [] [⟨some 14, none, .mv (.c (.b false)), [], 0⟩] false [14] [])
  .ret)
  .skip))
  (.seq (.reg [] [⟨some 20, none, .ld true 6 .tk (.k 7), [], 2⟩,
    ⟨some 21, none, .call n_c_law17_Make [.k 20], [], 2⟩,
    ⟨some 22, none, .call n_c_law17_Told [.k 21], [], 2⟩,
    ⟨some 23, none, .call n_c_ref20_Encode [.k 22], [], 0⟩,
    ⟨some 15, none, .mv (.k 23), [], 0⟩] false [1, 2, 3, 4, 5, 6, 15] [])
  (.seq (.reg [] [⟨some 24, none, .mv (.t 15), [], 0⟩,
    ⟨some 25, none, .mv (.k 15), [], 0⟩,
    ⟨some 26, none, .len true (.k 25), [], 0⟩,
    ⟨some 27, none, .bin .sub (.k 26) (.c (.i .i64 4)), [], 0⟩,
    ⟨some 28, none, .ss (.k 24) none (some (.k 27)), [], 0⟩,
    ⟨some 29, none, .cv .bytes (.k 28), [], 0⟩,
    ⟨some 16, none, .mv (.k 29), [], 0⟩] false [1, 2, 3, 4, 5, 6, 16] [16])
  (.seq (.reg [.thaw 16] [⟨some 30, none, .mv (.t 16), [], 0⟩,
    ⟨some 31, none, .len false (.k 30), [], 0⟩,
    ⟨some 17, none, .mv (.k 31), [], 0⟩] false [1, 2, 3, 4, 5, 6, 16, 17] [16])
  (.seq (.reg [.thaw 16] [⟨some 32, none, .mv (.t 16), [], 0⟩,
    ⟨some 33, none, .mv (.k 1), [], 0⟩,
    ⟨some 34, none, .mv (.t 17), [], 0⟩,
    ⟨some 35, none, .bin .rem (.k 33) (.k 34), [], 0⟩,
    ⟨some 36, none, .mv (.t 17), [], 0⟩,
    ⟨some 37, none, .bin .add (.k 35) (.k 36), [], 0⟩,
    ⟨some 38, none, .mv (.t 17), [], 0⟩,
    ⟨some 39, none, .bin .rem (.k 37) (.k 38), [], 0⟩,
    ⟨some 40, none, .mv (.k 4), [], 0⟩,
    ⟨some 41, none, .ia 1 none (.k 32) (.k 39), [], 0⟩,
    ⟨none, none, .st 1 (.k 41) (.k 40), [], 0⟩] false [2, 3, 5, 6, 16, 17] [16])
  (.seq (.reg [.thaw 16] [⟨some 42, none, .mv (.t 16), [], 0⟩,
    ⟨some 43, none, .mv (.k 2), [], 0⟩,
    ⟨some 44, none, .mv (.t 17), [], 0⟩,
    ⟨some 45, none, .bin .rem (.k 43) (.k 44), [], 0⟩,
    ⟨some 46, none, .mv (.t 17), [], 0⟩,
    ⟨some 47, none, .bin .add (.k 45) (.k 46), [], 0⟩,
    ⟨some 48, none, .mv (.t 17), [], 0⟩,
    ⟨some 49, none, .bin .rem (.k 47) (.k 48), [], 0⟩,
    ⟨some 50, none, .mv (.k 5), [], 0⟩,
    ⟨some 51, none, .ia 1 none (.k 42) (.k 49), [], 0⟩,
    ⟨none, none, .st 1 (.k 51) (.k 50), [], 0⟩] false [3, 6, 16, 17] [16])
  (.seq (.reg [.thaw 16] [⟨some 52, none, .mv (.t 16), [], 0⟩,
    ⟨some 53, none, .mv (.k 3), [], 0⟩,
    ⟨some 54, none, .mv (.t 17), [], 0⟩,
    ⟨some 55, none, .bin .rem (.k 53) (.k 54), [], 0⟩,
    ⟨some 56, none, .mv (.t 17), [], 0⟩,
    ⟨some 57, none, .bin .add (.k 55) (.k 56), [], 0⟩,
    ⟨some 58, none, .mv (.k 17), [], 0⟩,
    ⟨some 59, none, .bin .rem (.k 57) (.k 58), [], 0⟩,
    ⟨some 60, none, .mv (.k 6), [], 0⟩,
    ⟨some 61, none, .ia 1 none (.k 52) (.k 59), [], 0⟩,
    ⟨none, none, .st 1 (.k 61) (.k 60), [], 0⟩] false [16] [16])
  (.seq (.reg [.unth 16] [⟨some 62, none, .mv (.k 16), [], 0⟩,
    ⟨some 63, none, .cv .str (.k 62), [], 0⟩,
    ⟨some 64, none, .call n_c_ref02_Seal [.k 63], [], 0⟩,
    ⟨some 65, none, .call n_c_law20_reads [.k 64], [], 0⟩,
    ⟨some 14, none, .mv (.k 65), [], 0⟩] false [14] [])
  .ret)))))))))⟩

def F_c_law20_FilePrefix : F := ⟨2, [.inl 4],
  (.seq (.reg [.zz 0] [⟨some 2, none, .bx (.k 0), [], 0⟩,
    ⟨some 4, none, .mv (.c (.b false)), [], 0⟩] false [1, 2] [2])
  (.seq (.seq (.reg [] [⟨some 8, none, .call n_c_law20_awake [], [], 0⟩,
    ⟨some 9, none, .un .not (.k 8), [], 0⟩] false [1, 2, 9] [2])
  (.cond 9 (.seq (.reg [] [⟨some 4, none, .mv (.c (.b false)), [], 0⟩] false [4] [])
  .ret)
  .skip))
  (.seq (.reg [] [⟨some 10, none, .ld true 6 .tk (.k 2), [], 2⟩,
    ⟨some 11, none, .call n_c_law17_Make [.k 10], [], 2⟩,
    ⟨some 12, none, .call n_c_law17_Told [.k 11], [], 2⟩,
    ⟨some 13, none, .call n_c_ref20_Encode [.k 12], [], 0⟩,
    ⟨some 5, none, .mv (.k 13), [], 0⟩] false [1, 5] [])
  (.seq (.reg [] [⟨some 15, none, .mv (.t 5), [], 0⟩,
    ⟨some 16, none, .mv (.k 1), [], 0⟩,
    ⟨some 17, none, .mv (.t 5), [], 0⟩,
    ⟨some 18, none, .len true (.k 17), [], 0⟩,
    ⟨some 19, none, .bin .rem (.k 16) (.k 18), [], 0⟩,
    ⟨some 20, none, .mv (.t 5), [], 0⟩,
    ⟨some 21, none, .len true (.k 20), [], 0⟩,
    ⟨some 22, none, .bin .add (.k 19) (.k 21), [], 0⟩,
    ⟨some 23, none, .mv (.k 5), [], 0⟩,
    ⟨some 24, none, .len true (.k 23), [], 0⟩,
    ⟨some 25, none, .bin .rem (.k 22) (.k 24), [], 0⟩,
    ⟨some 26, none, .ss (.k 15) none (some (.k 25)), [], 0⟩,
    ⟨some 27, none, .call n_file_Decode [.k 26], [], 0⟩,
    ⟨some 14, none, .mv (.k 27), [], 0⟩,
    ⟨some 28, none, .ex false 0 14, [], 0⟩,
    ⟨some 29, none, .ex false 1 14, [], 0⟩,
    ⟨some 6, none, .al ([.i .i64 0, .i .i64 0, .i .u64 0, .l .o 1 [], .l .o 1 []]), [], 0⟩,
    ⟨none, none, .st 5 (.t 6) (.k 28), [], 0⟩,
    ⟨some 7, none, .mv (.k 29), [], 0⟩] false [6, 7] [6])
  (.seq (.reg [] [⟨some 30, none, .mv (.k 7), [], 0⟩,
    ⟨some 31, none, .bin .neq (.k 30) (.c (.i .i64 0)), [], 0⟩,
    ⟨some 32, none, .mv (.k 31), [], 0⟩,
    ⟨some 33, some (32, true), .fa 0 (.t 6), [], 0⟩,
    ⟨some 34, some (32, true), .ld false 1 .cp (.k 33), [], 0⟩,
    ⟨some 35, some (32, true), .bin .eql (.k 34) (.c (.i .i64 0)), [], 0⟩,
    ⟨some 36, none, .pick (.k 32) (.k 35) (.c (.b false)), [], 0⟩,
    ⟨some 37, none, .mv (.k 36), [], 0⟩,
    ⟨some 38, some (37, true), .fa 3 (.k 6), [], 0⟩,
    ⟨some 39, some (37, true), .ld false 1 .tk (.k 38), [], 0⟩,
    ⟨some 40, some (37, true), .len false (.k 39), [], 0⟩,
    ⟨some 41, some (37, true), .bin .eql (.k 40) (.c (.i .i64 0)), [], 0⟩,
    ⟨some 42, none, .pick (.k 37) (.k 41) (.c (.b false)), [], 0⟩,
    ⟨some 4, none, .mv (.k 42), [], 0⟩] false [4] [])
  .ret)))))⟩

def F_c_law20_FileBursts : F := ⟨4, [.inl 8],
  (.seq (.reg [.zz 0, .zz 3] [⟨some 4, none, .bx (.k 0), [], 0⟩,
    ⟨some 8, none, .mv (.c (.b false)), [], 0⟩] false [1, 2, 3, 4] [4])
  (.seq (.seq (.reg [] [⟨some 20, none, .call n_c_law20_awake [], [], 0⟩,
    ⟨some 21, none, .un .not (.k 20), [], 0⟩] false [1, 2, 3, 4, 21] [4])
  (.cond 21 (.seq (.reg [] [⟨some 8, none, .mv (.c (.b false)), [], 0⟩] false [8] [])
  .ret)
  .skip))
  (.seq (.reg [] [⟨some 22, none, .ld true 6 .tk (.k 4), [], 2⟩,
    ⟨some 23, none, .call n_c_law17_Make [.k 22], [], 2⟩,
    ⟨some 24, none, .call n_c_law17_Told [.k 23], [], 2⟩,
    ⟨some 25, none, .call n_c_ref20_Encode [.k 24], [], 0⟩,
    ⟨some 9, none, .mv (.k 25), [], 0⟩] false [1, 2, 3, 9] [])
  (.seq (.reg [] [⟨some 26, none, .mv (.t 9), [], 0⟩,
    ⟨some 27, none, .len true (.k 26), [], 0⟩,
    ⟨some 28, none, .bin .mul (.c (.i .i64 8)) (.k 27), [], 0⟩,
    ⟨some 10, none, .mv (.k 28), [], 0⟩] false [1, 2, 3, 9, 10] [])
  (.seq (.reg [] [⟨some 29, none, .mv (.k 1), [], 0⟩,
    ⟨some 30, none, .mv (.t 10), [], 0⟩,
    ⟨some 31, none, .bin .rem (.k 29) (.k 30), [], 0⟩,
    ⟨some 32, none, .mv (.t 10), [], 0⟩,
    ⟨some 33, none, .bin .add (.k 31) (.k 32), [], 0⟩,
    ⟨some 34, none, .mv (.t 10), [], 0⟩,
    ⟨some 35, none, .bin .rem (.k 33) (.k 34), [], 0⟩,
    ⟨some 1, none, .mv (.k 35), [], 0⟩] false [1, 2, 3, 9, 10] [])
  (.seq (.reg [] [⟨some 36, none, .mv (.t 9), [], 0⟩,
    ⟨some 37, none, .cv .bytes (.k 36), [], 0⟩,
    ⟨some 11, none, .mv (.k 37), [], 0⟩,
    ⟨some 12, none, .mv (.c (.b false)), [], 0⟩] false [1, 2, 3, 9, 10, 11, 12] [11])
  (.seq (.seq (.reg [] [⟨some 13, none, .mv (.c (.i .i64 0)), [], 0⟩] false [1, 2, 3, 9, 10, 11, 12, 13] [11])
  (.blk 0 (.loop (.seq (.seq (.reg [] [⟨some 38, none, .mv (.t 13), [], 0⟩,
    ⟨some 39, none, .bin .lss (.k 38) (.c (.i .i64 32)), [], 0⟩,
    ⟨some 40, none, .mv (.k 39), [], 0⟩,
    ⟨some 41, some (40, true), .mv (.t 1), [], 0⟩,
    ⟨some 42, some (40, true), .mv (.t 13), [], 0⟩,
    ⟨some 43, some (40, true), .bin .add (.k 41) (.k 42), [], 0⟩,
    ⟨some 44, some (40, true), .mv (.t 10), [], 0⟩,
    ⟨some 45, some (40, true), .bin .lss (.k 43) (.k 44), [], 0⟩,
    ⟨some 46, none, .pick (.k 40) (.k 45) (.c (.b false)), [], 0⟩] false [1, 2, 3, 9, 10, 11, 12, 13, 46] [11])
  (.cond 46 .skip
  (.exit 0)))
  (.seq (.blk 1 (.seq (.reg [] [⟨some 49, none, .mv (.t 2), [], 0⟩,
    ⟨some 50, none, .mv (.t 13), [], 0⟩,
    ⟨some 51, none, .bin .shr (.k 49) (.k 50), [], 0⟩,
    ⟨some 52, none, .bin .and (.k 51) (.c (.i .u32 1)), [], 0⟩,
    ⟨some 53, none, .bin .eql (.k 52) (.c (.i .u32 1)), [], 0⟩] false [1, 2, 3, 9, 10, 11, 12, 13, 53] [11])
  (.cond 53 (.seq (.reg [.thaw 11] [⟨some 54, none, .mv (.t 11), [], 0⟩,
    ⟨some 55, none, .mv (.t 1), [0], 0⟩,
    ⟨some 56, none, .mv (.t 13), [0, 1], 0⟩,
    ⟨some 57, none, .bin .add (.k 55) (.k 56), [0], 0⟩,
    ⟨some 58, none, .bin .quo (.k 57) (.c (.i .i64 8)), [0], 0⟩,
    ⟨some 59, none, .ia 1 none (.t 54) (.t 58), [], 0⟩,
    ⟨some 60, none, .ld false 1 .cp (.k 59), [], 0⟩,
    ⟨some 61, none, .mv (.t 1), [0, 1, 2, 3, 4, 5, 6], 0⟩,
    ⟨some 62, none, .mv (.t 13), [0, 1, 2, 3, 4, 5, 6, 7], 0⟩,
    ⟨some 63, none, .bin .add (.k 61) (.k 62), [0, 1, 2, 3, 4, 5, 6], 0⟩,
    ⟨some 64, none, .bin .rem (.k 63) (.c (.i .i64 8)), [0, 1, 2, 3, 4, 5, 6], 0⟩,
    ⟨some 65, none, .bin .shl (.c (.i .u8 1)) (.k 64), [0, 1, 2, 3, 4, 5, 6], 0⟩,
    ⟨some 66, none, .bin .xor (.k 60) (.k 65), [], 0⟩,
    ⟨some 67, none, .ia 1 none (.t 54) (.t 58), [], 0⟩,
    ⟨none, none, .st 1 (.k 67) (.k 66), [], 0⟩] true [1, 2, 3, 9, 10, 11, 13] [11])
  (.reg [] [⟨some 12, none, .mv (.c (.b true)), [], 0⟩] false [1, 2, 3, 9, 10, 11, 12, 13] [11]))
  .skip)))
  (.reg [] [⟨some 47, none, .mv (.k 13), [], 0⟩,
    ⟨some 48, none, .bin .add (.k 47) (.c (.i .i64 1)), [], 0⟩,
    ⟨some 13, none, .mv (.k 48), [], 0⟩] false [1, 2, 3, 9, 10, 11, 12, 13] [11]))))))
  (.seq (.seq (.reg [.unth 11] [⟨some 69, none, .mv (.k 11), [], 0⟩,
    ⟨some 70, none, .cv .str (.k 69), [], 0⟩,
    ⟨some 71, none, .call n_file_Decode [.k 70], [], 0⟩,
    ⟨some 68, none, .mv (.k 71), [], 0⟩,
    ⟨some 72, none, .ex false 0 68, [], 0⟩,
    ⟨some 73, none, .ex false 1 68, [], 0⟩,
    ⟨some 14, none, .al ([.i .i64 0, .i .i64 0, .i .u64 0, .l .o 1 [], .l .o 1 []]), [], 0⟩,
    ⟨none, none, .st 5 (.k 14) (.k 72), [], 0⟩,
    ⟨some 15, none, .mv (.k 73), [], 0⟩] false [3, 9, 10, 12, 15] [])
  (.seq (.reg [] [⟨some 74, none, .mv (.k 12), [], 0⟩,
    ⟨some 75, none, .mv (.k 15), [], 0⟩,
    ⟨some 76, none, .bin .eql (.k 75) (.c (.i .i64 0)), [], 0⟩,
    ⟨some 77, none, .eq false .bo (.k 74) (.k 76), [], 0⟩] false [3, 9, 10, 77] [])
  (.cond 77 (.seq (.reg [] [⟨some 8, none, .mv (.c (.b false)), [], 0⟩] false [8] [])
  .ret)
  .skip)))
  (.seq (.reg [] [⟨some 78, none, .mv (.t 9), [], 0⟩,
    ⟨some 79, none, .cv .bytes (.k 78), [], 0⟩,
    ⟨some 11, none, .mv (.k 79), [], 0⟩] false [3, 9, 10, 11] [11])
  (.seq (.seq (.reg [] [⟨some 16, none, .mv (.c (.i .i64 0)), [], 0⟩] false [3, 9, 10, 11, 16] [11])
  (.blk 2 (.loop (.seq (.seq (.reg [] [⟨some 80, none, .mv (.t 16), [], 0⟩,
    ⟨some 81, none, .mv (.t 3), [], 0⟩,
    ⟨some 82, none, .len false (.k 81), [], 0⟩,
    ⟨some 83, none, .bin .lss (.k 80) (.k 82), [], 0⟩,
    ⟨some 84, none, .mv (.k 83), [], 0⟩,
    ⟨some 85, some (84, true), .mv (.t 16), [], 0⟩,
    ⟨some 86, some (84, true), .bin .lss (.k 85) (.c (.i .i64 3)), [], 0⟩,
    ⟨some 87, none, .pick (.k 84) (.k 86) (.c (.b false)), [], 0⟩] false [3, 9, 10, 11, 16, 87] [11])
  (.cond 87 .skip
  (.exit 2)))
  (.seq (.blk 3 (.seq (.reg [] [⟨some 90, none, .mv (.t 3), [], 0⟩,
    ⟨some 91, none, .mv (.t 16), [], 0⟩,
    ⟨some 92, none, .ia 1 none (.k 90) (.k 91), [], 0⟩,
    ⟨some 93, none, .ld false 1 .cp (.k 92), [], 0⟩,
    ⟨some 94, none, .mv (.t 10), [], 0⟩,
    ⟨some 95, none, .bin .rem (.k 93) (.k 94), [], 0⟩,
    ⟨some 96, none, .mv (.t 10), [], 0⟩,
    ⟨some 97, none, .bin .add (.k 95) (.k 96), [], 0⟩,
    ⟨some 98, none, .mv (.t 10), [], 0⟩,
    ⟨some 99, none, .bin .rem (.k 97) (.k 98), [], 0⟩,
    ⟨some 17, none, .mv (.k 99), [], 0⟩] false [3, 9, 10, 11, 16, 17] [11])
  (.reg [.thaw 11] [⟨some 100, none, .mv (.t 11), [], 0⟩,
    ⟨some 101, none, .mv (.t 17), [0], 0⟩,
    ⟨some 102, none, .bin .quo (.k 101) (.c (.i .i64 8)), [0], 0⟩,
    ⟨some 103, none, .ia 1 none (.t 100) (.t 102), [], 0⟩,
    ⟨some 104, none, .ld false 1 .cp (.k 103), [], 0⟩,
    ⟨some 105, none, .mv (.t 17), [0, 1, 2, 3, 4], 0⟩,
    ⟨some 106, none, .bin .rem (.k 105) (.c (.i .i64 8)), [0, 1, 2, 3, 4], 0⟩,
    ⟨some 107, none, .bin .shl (.c (.i .u8 1)) (.k 106), [0, 1, 2, 3, 4], 0⟩,
    ⟨some 108, none, .bin .xor (.k 104) (.k 107), [], 0⟩,
    ⟨some 109, none, .ia 1 none (.t 100) (.t 102), [], 0⟩,
    ⟨none, none, .st 1 (.k 109) (.k 108), [], 0⟩] true [3, 9, 10, 11, 16] [11])))
  (.reg [] [⟨some 88, none, .mv (.k 16), [], 0⟩,
    ⟨some 89, none, .bin .add (.k 88) (.c (.i .i64 1)), [], 0⟩,
    ⟨some 16, none, .mv (.k 89), [], 0⟩] false [3, 9, 10, 11, 16] [11]))))))
  (.seq (.reg [.unth 11, .fz 11] [⟨some 111, none, .mv (.t 11), [], 0⟩,
    ⟨some 112, none, .cv .str (.k 111), [], 0⟩,
    ⟨some 113, none, .call n_file_Decode [.k 112], [], 0⟩,
    ⟨some 110, none, .mv (.k 113), [], 0⟩,
    ⟨some 114, none, .ex false 0 110, [], 0⟩,
    ⟨some 115, none, .ex false 1 110, [], 0⟩,
    ⟨some 18, none, .al ([.i .i64 0, .i .i64 0, .i .u64 0, .l .o 1 [], .l .o 1 []]), [], 0⟩,
    ⟨none, none, .st 5 (.k 18) (.k 114), [], 0⟩,
    ⟨some 19, none, .mv (.k 115), [], 0⟩] false [9, 11, 19] [11])
  (.seq (.reg [.unth 11] [⟨some 116, none, .mv (.k 11), [], 0⟩,
    ⟨some 117, none, .cv .str (.k 116), [], 0⟩,
    ⟨some 118, none, .mv (.k 9), [], 0⟩,
    ⟨some 119, none, .bin .eql (.k 117) (.k 118), [], 0⟩,
    ⟨some 120, none, .mv (.k 19), [], 0⟩,
    ⟨some 121, none, .bin .eql (.k 120) (.c (.i .i64 0)), [], 0⟩,
    ⟨some 122, none, .eq false .bo (.k 119) (.k 121), [], 0⟩,
    ⟨some 8, none, .mv (.k 122), [], 0⟩] false [8] [])
  .ret))))))))))))⟩

def F_c_law20_FilePuts : F := ⟨2, [.inl 4],
  (.seq (.reg [.zz 0] [⟨some 2, none, .bx (.k 0), [], 0⟩,
    ⟨some 4, none, .mv (.c (.b false)), [], 0⟩] false [1, 2] [2])
  (.seq (.seq (.reg [] [⟨some 11, none, .call n_c_law20_awake [], [], 0⟩,
    ⟨some 12, none, .un .not (.k 11), [], 0⟩] false [1, 2, 12] [2])
  (.cond 12 (.seq (.reg [] [⟨some 4, none, .mv (.c (.b false)), [], 0⟩] false [4] [])
  .ret)
  .skip))
  (.seq (.reg [] [⟨some 13, none, .ld true 6 .tk (.k 2), [], 2⟩,
    ⟨some 14, none, .call n_c_law17_Make [.k 13], [], 1⟩,
    ⟨some 5, none, .al ([.i .i64 0, .i .i64 0, .i .u64 0, .l .o 1 [], .l .o 1 []]), [], 0⟩,
    ⟨none, none, .st 5 (.t 5) (.k 14), [], 0⟩] false [1, 5] [5])
  (.seq (.reg [] [⟨some 16, none, .ld true 5 .cp (.t 5), [], 2⟩,
    ⟨some 17, none, .call n_file_Encode [.k 16], [], 0⟩,
    ⟨some 15, none, .mv (.k 17), [], 0⟩,
    ⟨some 18, none, .ex false 0 15, [], 0⟩,
    ⟨some 19, none, .ex false 1 15, [], 0⟩,
    ⟨some 6, none, .mv (.k 18), [], 0⟩,
    ⟨some 7, none, .mv (.k 19), [], 0⟩] false [1, 5, 6, 7] [5])
  (.seq (.reg [] [⟨some 21, none, .mv (.t 6), [], 0⟩,
    ⟨some 22, none, .call n_file_Decode [.k 21], [], 0⟩,
    ⟨some 20, none, .mv (.k 22), [], 0⟩,
    ⟨some 23, none, .ex false 0 20, [], 0⟩,
    ⟨some 24, none, .ex false 1 20, [], 0⟩,
    ⟨some 8, none, .al ([.i .i64 0, .i .i64 0, .i .u64 0, .l .o 1 [], .l .o 1 []]), [], 0⟩,
    ⟨none, none, .st 5 (.t 8) (.k 23), [], 0⟩,
    ⟨some 9, none, .mv (.k 24), [], 0⟩] false [1, 5, 6, 7, 8, 9] [5, 8])
  (.seq (.seq (.reg [] [⟨some 25, none, .mv (.k 7), [], 0⟩,
    ⟨some 26, none, .bin .neq (.k 25) (.c (.i .i64 0)), [], 0⟩,
    ⟨some 27, none, .mv (.k 26), [], 0⟩,
    ⟨some 28, some (27, false), .mv (.k 9), [], 0⟩,
    ⟨some 29, some (27, false), .bin .neq (.k 28) (.c (.i .i64 0)), [], 0⟩,
    ⟨some 30, none, .pick (.k 27) (.c (.b true)) (.k 29), [], 0⟩,
    ⟨some 31, none, .mv (.k 30), [], 0⟩,
    ⟨some 32, some (31, false), .mv (.k 6), [], 0⟩,
    ⟨some 33, some (31, false), .ld true 5 .cp (.t 5), [], 2⟩,
    ⟨some 34, some (31, false), .call n_c_law17_Told [.k 33], [], 2⟩,
    ⟨some 35, some (31, false), .call n_c_ref20_Encode [.k 34], [], 0⟩,
    ⟨some 36, some (31, false), .bin .neq (.k 32) (.k 35), [], 0⟩,
    ⟨some 37, none, .pick (.k 31) (.c (.b true)) (.k 36), [], 0⟩,
    ⟨some 38, none, .mv (.k 37), [], 0⟩,
    ⟨some 39, some (38, false), .ld true 5 .tk (.k 8), [], 2⟩,
    ⟨some 40, some (38, false), .ld true 5 .cp (.t 5), [], 2⟩,
    ⟨some 41, some (38, false), .call n_image_Image_Same [.k 39, .k 40], [], 0⟩,
    ⟨some 42, some (38, false), .un .not (.k 41), [], 0⟩,
    ⟨some 43, none, .pick (.k 38) (.c (.b true)) (.k 42), [], 0⟩] false [1, 5, 43] [5])
  (.cond 43 (.seq (.reg [] [⟨some 4, none, .mv (.c (.b false)), [], 0⟩] false [4] [])
  .ret)
  .skip))
  (.seq (.reg [] [⟨some 44, none, .mv (.k 1), [], 0⟩,
    ⟨some 45, none, .fa 1 (.t 5), [], 0⟩,
    ⟨none, none, .st 1 (.k 45) (.k 44), [], 0⟩] false [5] [5])
  (.seq (.reg [] [⟨some 46, none, .ld true 5 .cp (.t 5), [], 2⟩,
    ⟨some 47, none, .call n_image_Image_Check [.k 46], [], 0⟩,
    ⟨some 10, none, .mv (.k 47), [], 0⟩] false [5, 10] [5])
  (.seq (.reg [] [⟨some 49, none, .ld true 5 .tk (.k 5), [], 2⟩,
    ⟨some 50, none, .call n_file_Encode [.k 49], [], 0⟩,
    ⟨some 48, none, .mv (.k 50), [], 0⟩,
    ⟨some 51, none, .ex false 0 48, [], 0⟩,
    ⟨some 52, none, .ex false 1 48, [], 0⟩,
    ⟨some 6, none, .mv (.k 51), [], 0⟩,
    ⟨some 7, none, .mv (.k 52), [], 0⟩] false [6, 7, 10] [])
  (.seq (.reg [] [⟨some 53, none, .mv (.t 7), [], 0⟩,
    ⟨some 54, none, .mv (.k 10), [], 0⟩,
    ⟨some 55, none, .bin .eql (.k 53) (.k 54), [], 0⟩,
    ⟨some 56, none, .mv (.k 55), [], 0⟩,
    ⟨some 57, some (56, true), .mv (.k 7), [], 0⟩,
    ⟨some 58, some (56, true), .bin .eql (.k 57) (.c (.i .i64 0)), [], 0⟩,
    ⟨some 59, some (56, true), .mv (.k 6), [], 0⟩,
    ⟨some 60, some (56, true), .bin .neq (.k 59) (.c (.s ⟨#[]⟩)), [], 0⟩,
    ⟨some 61, some (56, true), .eq false .bo (.k 58) (.k 60), [], 0⟩,
    ⟨some 62, none, .pick (.k 56) (.k 61) (.c (.b false)), [], 0⟩,
    ⟨some 4, none, .mv (.k 62), [], 0⟩] false [4] [])
  .ret))))))))))⟩

def F_c_law17_awake : F := ⟨0, [.inl 0],
  (.seq (.reg [] [⟨some 0, none, .mv (.c (.b false)), [], 0⟩] false [] [])
  (.seq (.reg [] [⟨some 4, none, .call n_image_Shape [.c (.i .i64 1), .c (.i .i64 3)], [], 0⟩,
    ⟨some 3, none, .mv (.k 4), [], 0⟩,
    ⟨some 5, none, .ex false 0 3, [], 0⟩,
    ⟨some 6, none, .ex false 1 3, [], 0⟩,
    ⟨some 1, none, .mv (.k 5), [], 0⟩,
    ⟨some 2, none, .mv (.k 6), [], 0⟩] false [1, 2] [])
  (.seq (.reg [] [⟨some 7, none, .mv (.k 1), [], 0⟩,
    ⟨some 8, none, .bin .eql (.k 7) (.c (.i .i64 3)), [], 0⟩,
    ⟨some 9, none, .mv (.k 8), [], 0⟩,
    ⟨some 10, some (9, true), .mv (.k 2), [], 0⟩,
    ⟨some 11, some (9, true), .bin .eql (.k 10) (.c (.i .i64 0)), [], 0⟩,
    ⟨some 12, none, .pick (.k 9) (.k 11) (.c (.b false)), [], 0⟩,
    ⟨some 13, none, .mv (.k 12), [], 0⟩,
    ⟨some 14, some (13, true), .call n_image_Room [.c (.i .i64 16)], [], 0⟩,
    ⟨some 15, some (13, true), .bin .eql (.k 14) (.c (.i .i64 992)), [], 0⟩,
    ⟨some 16, none, .pick (.k 13) (.k 15) (.c (.b false)), [], 0⟩,
    ⟨some 17, none, .mv (.k 16), [], 0⟩,
    ⟨some 18, some (17, true), .bd ([.i .i64 0, .i .i64 0, .i .u64 0, .l .o 1 [], .l .o 1 []]) [], [], 2⟩,
    ⟨some 19, some (17, true), .call n_image_Image_Check [.k 18], [], 0⟩,
    ⟨some 20, some (17, true), .bin .eql (.k 19) (.c (.i .i64 6)), [], 0⟩,
    ⟨some 21, none, .pick (.k 17) (.k 20) (.c (.b false)), [], 0⟩,
    ⟨some 22, none, .mv (.k 21), [], 0⟩,
    ⟨some 23, some (22, true), .bs 1 1 (.i .i64 0) [(0, .c (.i .i64 5))], [], 1⟩,
    ⟨some 24, some (22, true), .bd ([.i .i64 0, .i .i64 0, .i .u64 0, .l .o 1 [], .l .o 1 []]) [(0, 1, .c (.i .i64 4)), (1, 1, .c (.i .i64 4)), (4, 1, .k 23)], [], 2⟩,
    ⟨some 25, some (22, true), .call n_image_Image_Value [.k 24], [], 0⟩,
    ⟨some 26, some (22, true), .fd false 2 1 (.k 25), [], 0⟩,
    ⟨some 27, some (22, true), .bin .eql (.k 26) (.c (.i .i64 5)), [], 0⟩,
    ⟨some 28, none, .pick (.k 22) (.k 27) (.c (.b false)), [], 0⟩,
    ⟨some 0, none, .mv (.k 28), [], 0⟩] false [0] [])
  .ret)))⟩

def F_c_law17_spoilt : F := ⟨3, [.inr (6, true, 5)],
  (.seq (.reg [] [⟨some 3, none, .bx (.k 0), [], 0⟩,
    ⟨some 6, none, .al ([.i .i64 0, .i .i64 0, .i .u64 0, .l .o 1 [], .l .o 1 []]), [], 0⟩] false [1, 2, 3, 6] [3, 6])
  (.seq (.reg [] [⟨some 11, none, .mv (.t 2), [], 0⟩,
    ⟨some 12, none, .bin .and (.k 11) (.c (.i .i64 63)), [], 0⟩,
    ⟨some 7, none, .mv (.k 12), [], 0⟩] false [1, 2, 3, 6, 7] [3, 6])
  (.seq (.seq (.reg [] [⟨some 13, none, .mv (.k 1), [], 0⟩,
    ⟨some 14, none, .bin .and (.k 13) (.c (.i .i64 7)), [], 0⟩] false [2, 3, 6, 7, 14] [3, 6])
  (.blk 0 (.seq (.reg [] [⟨some 16, none, .bin .eql (.t 14) (.c (.i .i64 1)), [], 0⟩,
    ⟨some 15, none, .mv (.k 16), [], 0⟩] false [2, 3, 6, 7, 14, 15] [3, 6])
  (.cond 15 (.reg [] [⟨some 17, none, .mv (.k 7), [], 0⟩,
    ⟨some 18, none, .bin .sub (.k 17) (.c (.i .i64 2)), [], 0⟩,
    ⟨some 19, none, .fa 1 (.t 3), [], 0⟩,
    ⟨none, none, .st 1 (.k 19) (.k 18), [], 0⟩] false [3, 6] [3, 6])
  (.seq (.reg [] [⟨some 21, none, .bin .eql (.t 14) (.c (.i .i64 2)), [], 0⟩,
    ⟨some 20, none, .mv (.k 21), [], 0⟩] false [2, 3, 6, 7, 14, 20] [3, 6])
  (.cond 20 (.reg [] [⟨some 22, none, .mv (.k 7), [], 0⟩,
    ⟨some 23, none, .bin .rem (.k 22) (.c (.i .i64 7)), [], 0⟩,
    ⟨some 24, none, .fa 0 (.t 3), [], 0⟩,
    ⟨none, none, .st 1 (.k 24) (.k 23), [], 0⟩] false [3, 6] [3, 6])
  (.seq (.reg [] [⟨some 26, none, .bin .eql (.t 14) (.c (.i .i64 3)), [], 0⟩,
    ⟨some 25, none, .mv (.k 26), [], 0⟩] false [2, 3, 6, 7, 14, 25] [3, 6])
  (.cond 25 (.reg [] [⟨some 27, none, .fa 3 (.t 3), [], 0⟩,
    ⟨some 28, none, .ld false 1 .tk (.k 27), [], 0⟩,
    ⟨some 29, none, .bs 1 1 (.l .o 2 []) [(0, .c (.l .o 2 []))], [], 0⟩,
    ⟨some 30, none, .app 1 24 (.k 28) (.k 29), [], 0⟩,
    ⟨some 31, none, .fa 3 (.t 3), [], 0⟩,
    ⟨none, none, .st 1 (.k 31) (.k 30), [], 0⟩] false [3, 6] [3, 6])
  (.seq (.reg [] [⟨some 33, none, .bin .eql (.t 14) (.c (.i .i64 4)), [], 0⟩,
    ⟨some 32, none, .mv (.k 33), [], 0⟩] false [2, 3, 6, 7, 14, 32] [3, 6])
  (.cond 32 (.reg [] [⟨some 34, none, .fa 4 (.t 3), [], 0⟩,
    ⟨some 35, none, .ld false 1 .tk (.k 34), [], 0⟩,
    ⟨some 36, none, .mv (.k 2), [], 0⟩,
    ⟨some 37, none, .bs 1 1 (.i .i64 0) [(0, .k 36)], [], 0⟩,
    ⟨some 38, none, .app 1 8 (.k 35) (.k 37), [], 0⟩,
    ⟨some 39, none, .fa 4 (.t 3), [], 0⟩,
    ⟨none, none, .st 1 (.k 39) (.k 38), [], 0⟩] false [3, 6] [3, 6])
  (.seq (.reg [] [⟨some 41, none, .bin .eql (.t 14) (.c (.i .i64 5)), [], 0⟩,
    ⟨some 40, none, .mv (.k 41), [], 0⟩] false [2, 3, 6, 7, 14, 40] [3, 6])
  (.cond 40 (.seq (.reg [] [⟨some 42, none, .fa 3 (.t 3), [], 0⟩,
    ⟨some 43, none, .lda 1 (.k 42), [], 1⟩,
    ⟨some 44, none, .len false (.k 43), [], 0⟩,
    ⟨some 45, none, .bin .gtr (.k 44) (.c (.i .i64 0)), [], 0⟩] false [2, 3, 6, 7, 45] [3, 6])
  (.cond 45 (.seq (.reg [] [⟨some 46, none, .fa 3 (.t 3), [], 0⟩,
    ⟨some 47, none, .lda 1 (.k 46), [], 1⟩,
    ⟨some 48, none, .mv (.t 7), [0, 1], 0⟩,
    ⟨some 49, none, .fa 3 (.t 3), [0, 1, 2], 0⟩,
    ⟨some 50, none, .lda 1 (.k 49), [0, 1, 2], 1⟩,
    ⟨some 51, none, .len false (.k 50), [0, 1, 2], 0⟩,
    ⟨some 52, none, .bin .rem (.k 48) (.k 51), [0, 1], 0⟩,
    ⟨some 53, none, .ia 1 none (.k 47) (.k 52), [], 0⟩,
    ⟨some 54, none, .ld false 1 .tk (.k 53), [], 0⟩,
    ⟨some 8, none, .mv (.k 54), [], 0⟩] true [2, 3, 6, 7, 8] [3, 6])
  (.reg [] [⟨some 55, none, .fa 3 (.t 3), [], 0⟩,
    ⟨some 56, none, .lda 1 (.k 55), [], 0⟩,
    ⟨some 57, none, .mv (.k 7), [0, 1], 0⟩,
    ⟨some 58, none, .fa 3 (.t 3), [0, 1, 2], 0⟩,
    ⟨some 59, none, .lda 1 (.k 58), [0, 1, 2], 1⟩,
    ⟨some 60, none, .len false (.k 59), [0, 1, 2], 0⟩,
    ⟨some 61, none, .bin .rem (.k 57) (.k 60), [0, 1], 0⟩,
    ⟨some 62, none, .mv (.k 8), [0, 1, 2, 3, 4, 5, 6], 0⟩,
    ⟨some 63, none, .mv (.k 2), [0, 1, 2, 3, 4, 5, 6, 7], 0⟩,
    ⟨some 64, none, .bd ([.f .f64 0, .i .i64 0]) [(0, 1, .c (.f .f64 13830554455654793216)), (1, 1, .k 63)], [0, 1, 2, 3, 4, 5, 6, 7], 0⟩,
    ⟨some 65, none, .bs 2 1 (.a ([.f .f64 0, .i .i64 0])) [(0, .k 64)], [0, 1, 2, 3, 4, 5, 6, 7], 0⟩,
    ⟨some 66, none, .app 2 16 (.k 62) (.k 65), [0, 1, 2, 3, 4, 5, 6], 1⟩,
    ⟨some 67, none, .ia 1 none (.k 56) (.k 61), [], 0⟩,
    ⟨none, none, .st 1 (.k 67) (.k 66), [], 0⟩] true [3, 6] [3, 6]))
  .skip))
  (.seq (.reg [] [⟨some 69, none, .bin .eql (.t 14) (.c (.i .i64 6)), [], 0⟩,
    ⟨some 68, none, .mv (.k 69), [], 0⟩] false [2, 3, 6, 7, 14, 68] [3, 6])
  (.cond 68 (.seq (.reg [] [⟨some 70, none, .fa 4 (.t 3), [], 0⟩,
    ⟨some 71, none, .lda 1 (.k 70), [], 1⟩,
    ⟨some 72, none, .len false (.k 71), [], 0⟩,
    ⟨some 73, none, .bin .gtr (.k 72) (.c (.i .i64 0)), [], 0⟩] false [2, 3, 6, 7, 73] [3, 6])
  (.cond 73 (.reg [] [⟨some 74, none, .fa 4 (.t 3), [], 0⟩,
    ⟨some 75, none, .lda 1 (.k 74), [], 0⟩,
    ⟨some 76, none, .mv (.k 7), [0, 1], 0⟩,
    ⟨some 77, none, .fa 4 (.t 3), [0, 1, 2], 0⟩,
    ⟨some 78, none, .lda 1 (.k 77), [0, 1, 2], 1⟩,
    ⟨some 79, none, .len false (.k 78), [0, 1, 2], 0⟩,
    ⟨some 80, none, .bin .rem (.k 76) (.k 79), [0, 1], 0⟩,
    ⟨some 81, none, .mv (.k 2), [0, 1, 2, 3, 4, 5, 6], 0⟩,
    ⟨some 82, none, .ia 1 none (.k 75) (.k 80), [], 0⟩,
    ⟨none, none, .st 1 (.k 82) (.k 81), [], 0⟩] true [3, 6] [3, 6])
  .skip))
  (.seq (.reg [] [⟨some 84, none, .bin .eql (.k 14) (.c (.i .i64 7)), [], 0⟩,
    ⟨some 83, none, .mv (.k 84), [], 0⟩] false [3, 6, 83] [3, 6])
  (.cond 83 (.seq (.reg [] [⟨some 9, none, .mv (.c (.i .i64 0)), [], 0⟩] false [3, 6, 9] [3, 6])
  (.blk 1 (.loop (.seq (.seq (.reg [] [⟨some 85, none, .mv (.t 9), [], 0⟩,
    ⟨some 86, none, .bin .lss (.k 85) (.c (.i .i64 1100)), [], 0⟩,
    ⟨some 87, none, .mv (.k 86), [], 0⟩,
    ⟨some 88, some (87, true), .fa 3 (.t 3), [], 0⟩,
    ⟨some 89, some (87, true), .lda 1 (.k 88), [], 1⟩,
    ⟨some 90, some (87, true), .len false (.k 89), [], 0⟩,
    ⟨some 91, some (87, true), .bin .gtr (.k 90) (.c (.i .i64 0)), [], 0⟩,
    ⟨some 92, none, .pick (.k 87) (.k 91) (.c (.b false)), [], 0⟩] false [3, 6, 9, 92] [3, 6])
  (.cond 92 .skip
  (.exit 1)))
  (.seq (.blk 2 (.seq (.reg [] [⟨some 95, none, .mv (.t 9), [], 0⟩,
    ⟨some 96, none, .fa 3 (.t 3), [], 0⟩,
    ⟨some 97, none, .lda 1 (.k 96), [], 1⟩,
    ⟨some 98, none, .len false (.k 97), [], 0⟩,
    ⟨some 99, none, .bin .rem (.k 95) (.k 98), [], 0⟩,
    ⟨some 10, none, .mv (.k 99), [], 0⟩] false [3, 6, 9, 10] [3, 6])
  (.reg [] [⟨some 100, none, .fa 3 (.t 3), [], 0⟩,
    ⟨some 101, none, .lda 1 (.k 100), [], 0⟩,
    ⟨some 102, none, .mv (.t 10), [0, 1], 0⟩,
    ⟨some 103, none, .fa 3 (.t 3), [0, 1, 2], 0⟩,
    ⟨some 104, none, .lda 1 (.k 103), [0, 1, 2], 1⟩,
    ⟨some 105, none, .mv (.t 10), [0, 1, 2, 3, 4], 0⟩,
    ⟨some 106, none, .ia 1 none (.k 104) (.k 105), [0, 1, 2], 0⟩,
    ⟨some 107, none, .ld false 1 .tk (.k 106), [0, 1, 2], 0⟩,
    ⟨some 108, none, .mv (.t 9), [0, 1, 2, 3, 4, 5, 6, 7], 0⟩,
    ⟨some 109, none, .bd ([.f .f64 0, .i .i64 0]) [(0, 1, .c (.f .f64 4607182418800017408)), (1, 1, .k 108)], [0, 1, 2, 3, 4, 5, 6, 7], 0⟩,
    ⟨some 110, none, .bs 2 1 (.a ([.f .f64 0, .i .i64 0])) [(0, .k 109)], [0, 1, 2, 3, 4, 5, 6, 7], 0⟩,
    ⟨some 111, none, .app 2 16 (.k 107) (.k 110), [0, 1, 2], 1⟩,
    ⟨some 112, none, .ia 1 none (.k 101) (.k 102), [], 0⟩,
    ⟨none, none, .st 1 (.k 112) (.k 111), [], 0⟩] true [3, 6, 9] [3, 6])))
  (.reg [] [⟨some 93, none, .mv (.k 9), [], 0⟩,
    ⟨some 94, none, .bin .add (.k 93) (.c (.i .i64 1)), [], 0⟩,
    ⟨some 9, none, .mv (.k 94), [], 0⟩] false [3, 6, 9] [3, 6]))))))
  .skip))))))))))))))))
  (.seq (.reg [] [⟨some 113, none, .ld true 5 .tk (.k 3), [], 1⟩,
    ⟨none, none, .st 5 (.t 6) (.k 113), [], 0⟩] false [6] [6])
  .ret))))⟩

def F_c_law17_Make : F := ⟨1, [.inr (2, true, 5)],
  (.seq (.reg [.zz 0] [⟨some 1, none, .bx (.k 0), [], 0⟩,
    ⟨some 2, none, .al ([.i .i64 0, .i .i64 0, .i .u64 0, .l .x 1 [], .l .x 1 []]), [], 0⟩] false [1, 2] [1, 2])
  (.seq (.reg [] [⟨some 13, none, .fa 0 (.t 1), [], 0⟩,
    ⟨some 14, none, .ld false 1 .cp (.k 13), [], 0⟩,
    ⟨some 15, none, .fa 1 (.t 1), [], 0⟩,
    ⟨some 16, none, .ld false 1 .cp (.k 15), [], 0⟩,
    ⟨some 17, none, .call n_c_law12_Kind [.k 14, .k 16], [], 0⟩,
    ⟨some 12, none, .mv (.k 17), [], 0⟩,
    ⟨some 18, none, .ex false 0 12, [], 0⟩,
    ⟨some 19, none, .ex false 1 12, [], 0⟩,
    ⟨some 3, none, .mv (.k 18), [], 0⟩,
    ⟨some 4, none, .mv (.k 19), [], 0⟩] false [1, 2, 3, 4] [1, 2])
  (.seq (.reg [] [⟨some 20, none, .mv (.t 3), [], 0⟩,
    ⟨some 21, none, .mv (.t 4), [], 0⟩,
    ⟨some 22, none, .fa 2 (.t 1), [], 0⟩,
    ⟨some 23, none, .ld false 1 .cp (.k 22), [], 0⟩,
    ⟨some 24, none, .bd ([.i .i64 0, .i .i64 0, .i .u64 0, .l .x 1 [], .l .x 1 []]) [(0, 1, .k 20), (1, 1, .k 21), (2, 1, .k 23)], [], 0⟩,
    ⟨some 5, none, .al ([.i .i64 0, .i .i64 0, .i .u64 0, .l .x 1 [], .l .x 1 []]), [], 0⟩,
    ⟨none, none, .st 5 (.t 5) (.k 24), [], 0⟩] false [1, 2, 3, 4, 5] [1, 2, 5])
  (.seq (.reg [] [⟨some 25, none, .mv (.t 4), [], 0⟩,
    ⟨some 26, none, .bs 1 5 (.i .i64 0) [(0, .c (.i .i64 0)), (1, .k 25), (2, .c (.i .i64 1)), (3, .c (.i .i64 0)), (4, .c (.i .i64 0))], [], 1⟩,
    ⟨some 27, none, .mv (.t 3), [0, 1], 0⟩,
    ⟨some 28, none, .ia 1 none (.k 26) (.k 27), [], 0⟩,
    ⟨some 29, none, .ld false 1 .cp (.k 28), [], 0⟩,
    ⟨some 30, none, .mv (.t 4), [0, 1, 2, 3, 4], 0⟩,
    ⟨some 31, none, .bs 1 5 (.i .i64 0) [(0, .c (.i .i64 0)), (1, .c (.i .i64 0)), (2, .c (.i .i64 0)), (3, .k 30), (4, .c (.i .i64 1))], [0, 1, 2, 3, 4], 1⟩,
    ⟨some 32, none, .mv (.t 3), [0, 1, 2, 3, 4, 5, 6], 0⟩,
    ⟨some 33, none, .ia 1 none (.k 31) (.k 32), [0, 1, 2, 3, 4], 0⟩,
    ⟨some 34, none, .ld false 1 .cp (.k 33), [0, 1, 2, 3, 4], 0⟩,
    ⟨some 6, none, .mv (.k 29), [5, 6, 7, 8, 9], 0⟩,
    ⟨some 7, none, .mv (.k 34), [], 0⟩] true [1, 2, 3, 5, 6, 7] [1, 2, 5])
  (.seq (.seq (.reg [] [⟨some 35, none, .mv (.t 6), [], 0⟩,
    ⟨some 36, none, .mv (.c (.i .i64 0)), [], 0⟩] false [1, 2, 3, 5, 6, 7, 35, 36] [1, 2, 5])
  (.blk 0 (.loop (.seq (.reg [] [⟨some 37, none, .bin .lss (.t 36) (.t 35), [], 0⟩] false [1, 2, 3, 5, 6, 7, 35, 36, 37] [1, 2, 5])
  (.seq (.cond 37 .skip
  (.exit 0))
  (.seq (.blk 1 (.reg [] [⟨some 38, none, .fa 3 (.t 5), [], 0⟩,
    ⟨some 39, none, .ld false 1 .tk (.k 38), [], 0⟩,
    ⟨some 40, none, .bs 2 0 (.a ([.f .f64 0, .i .i64 0])) [], [], 1⟩,
    ⟨some 41, none, .bs 1 1 (.l .o 2 []) [(0, .k 40)], [], 0⟩,
    ⟨some 42, none, .app 1 24 (.k 39) (.k 41), [], 0⟩,
    ⟨some 43, none, .fa 3 (.t 5), [], 0⟩,
    ⟨none, none, .st 1 (.k 43) (.k 42), [], 0⟩] false [1, 2, 3, 5, 6, 7, 35, 36] [1, 2, 5]))
  (.reg [] [⟨some 44, none, .bin .add (.k 36) (.c (.i .i64 1)), [], 0⟩,
    ⟨some 36, none, .mv (.k 44), [], 0⟩] false [1, 2, 3, 5, 6, 7, 35, 36] [1, 2, 5])))))))
  (.seq (.seq (.reg [] [⟨some 8, none, .mv (.c (.i .i64 0)), [], 0⟩] false [1, 2, 3, 5, 6, 7, 8] [1, 2, 5])
  (.blk 2 (.loop (.seq (.seq (.reg [] [⟨some 45, none, .mv (.t 8), [], 0⟩,
    ⟨some 46, none, .fa 3 (.t 1), [], 0⟩,
    ⟨some 47, none, .ld false 1 .cp (.k 46), [], 0⟩,
    ⟨some 48, none, .len false (.k 47), [], 0⟩,
    ⟨some 49, none, .bin .lss (.k 45) (.k 48), [], 0⟩,
    ⟨some 50, none, .mv (.k 49), [], 0⟩,
    ⟨some 51, some (50, true), .mv (.t 8), [], 0⟩,
    ⟨some 52, some (50, true), .bin .lss (.k 51) (.c (.i .i64 60)), [], 0⟩,
    ⟨some 53, none, .pick (.k 50) (.k 52) (.c (.b false)), [], 0⟩,
    ⟨some 54, none, .mv (.k 53), [], 0⟩,
    ⟨some 55, some (54, true), .mv (.t 6), [], 0⟩,
    ⟨some 56, some (54, true), .bin .gtr (.k 55) (.c (.i .i64 0)), [], 0⟩,
    ⟨some 57, none, .pick (.k 54) (.k 56) (.c (.b false)), [], 0⟩] false [1, 2, 3, 5, 6, 7, 8, 57] [1, 2, 5])
  (.cond 57 .skip
  (.exit 2)))
  (.seq (.blk 3 (.reg [] [⟨some 60, none, .fa 3 (.t 5), [], 0⟩,
    ⟨some 61, none, .lda 1 (.k 60), [], 0⟩,
    ⟨some 62, none, .mv (.t 8), [0, 1], 0⟩,
    ⟨some 63, none, .mv (.t 6), [0, 1, 2], 0⟩,
    ⟨some 64, none, .bin .rem (.k 62) (.k 63), [0, 1], 0⟩,
    ⟨some 65, none, .fa 3 (.t 5), [0, 1, 2, 3, 4], 0⟩,
    ⟨some 66, none, .lda 1 (.k 65), [0, 1, 2, 3, 4], 1⟩,
    ⟨some 67, none, .mv (.t 8), [0, 1, 2, 3, 4, 5, 6], 0⟩,
    ⟨some 68, none, .mv (.t 6), [0, 1, 2, 3, 4, 5, 6, 7], 0⟩,
    ⟨some 69, none, .bin .rem (.k 67) (.k 68), [0, 1, 2, 3, 4, 5, 6], 0⟩,
    ⟨some 70, none, .ia 1 none (.k 66) (.k 69), [0, 1, 2, 3, 4], 0⟩,
    ⟨some 71, none, .ld false 1 .tk (.k 70), [0, 1, 2, 3, 4], 0⟩,
    ⟨some 72, none, .fa 3 (.t 1), [0, 1, 2, 3, 4, 5, 6, 7, 8, 9, 10, 11], 0⟩,
    ⟨some 73, none, .ld false 1 .cp (.k 72), [0, 1, 2, 3, 4, 5, 6, 7, 8, 9, 10, 11], 0⟩,
    ⟨some 74, none, .mv (.t 8), [0, 1, 2, 3, 4, 5, 6, 7, 8, 9, 10, 11, 12, 13], 0⟩,
    ⟨some 75, none, .ia 2 none (.k 73) (.k 74), [0, 1, 2, 3, 4, 5, 6, 7, 8, 9, 10, 11], 0⟩,
    ⟨some 76, none, .ld true 2 .cp (.k 75), [0, 1, 2, 3, 4, 5, 6, 7, 8, 9, 10, 11], 0⟩,
    ⟨some 77, none, .call n_c_law04_Own [.k 76], [0, 1, 2, 3, 4, 5, 6, 7, 8, 9, 10, 11], 0⟩,
    ⟨some 78, none, .call n_pile_Item_Canon [.k 77], [0, 1, 2, 3, 4, 5, 6, 7, 8, 9, 10, 11], 0⟩,
    ⟨some 79, none, .bs 2 1 (.a ([.f .f64 0, .i .i64 0])) [(0, .k 78)], [0, 1, 2, 3, 4, 5, 6, 7, 8, 9, 10, 11], 0⟩,
    ⟨some 80, none, .app 2 16 (.k 71) (.k 79), [0, 1, 2, 3, 4], 1⟩,
    ⟨some 81, none, .ia 1 none (.k 61) (.k 64), [], 0⟩,
    ⟨none, none, .st 1 (.k 81) (.k 80), [], 0⟩] true [1, 2, 3, 5, 6, 7, 8] [1, 2, 5]))
  (.reg [] [⟨some 58, none, .mv (.k 8), [], 0⟩,
    ⟨some 59, none, .bin .add (.k 58) (.c (.i .i64 1)), [], 0⟩,
    ⟨some 8, none, .mv (.k 59), [], 0⟩] false [1, 2, 3, 5, 6, 7, 8] [1, 2, 5]))))))
  (.seq (.seq (.reg [] [⟨some 82, none, .fa 3 (.t 5), [], 0⟩,
    ⟨some 83, none, .lda 1 (.k 82), [], 1⟩,
    ⟨some 84, none, .len false (.k 83), [], 0⟩,
    ⟨some 85, none, .mv (.c (.i .i64 0)), [], 0⟩] false [1, 2, 3, 5, 7, 84, 85] [1, 2, 5])
  (.blk 4 (.loop (.seq (.reg [] [⟨some 86, none, .bin .lss (.t 85) (.t 84), [], 0⟩] false [1, 2, 3, 5, 7, 84, 85, 86] [1, 2, 5])
  (.seq (.cond 86 .skip
  (.exit 4))
  (.seq (.blk 5 (.seq (.reg [] [⟨some 87, none, .mv (.t 85), [], 0⟩,
    ⟨some 9, none, .mv (.k 87), [], 0⟩] false [1, 2, 3, 5, 7, 9, 84, 85] [1, 2, 5])
  (.seq (.reg [] [⟨some 88, none, .mv (.t 3), [], 0⟩,
    ⟨some 89, none, .bin .eql (.k 88) (.c (.i .i64 1)), [], 0⟩] false [1, 2, 3, 5, 7, 9, 84, 85, 89] [1, 2, 5])
  (.cond 89 (.reg [] [⟨some 90, none, .fa 3 (.t 5), [], 0⟩,
    ⟨some 91, none, .lda 1 (.k 90), [], 0⟩,
    ⟨some 92, none, .mv (.t 9), [0, 1], 0⟩,
    ⟨some 93, none, .fa 3 (.t 5), [0, 1, 2], 0⟩,
    ⟨some 94, none, .lda 1 (.k 93), [0, 1, 2], 1⟩,
    ⟨some 95, none, .mv (.t 9), [0, 1, 2, 3, 4], 0⟩,
    ⟨some 96, none, .ia 1 none (.k 94) (.k 95), [0, 1, 2], 0⟩,
    ⟨some 97, none, .ld false 1 .cp (.k 96), [0, 1, 2], 2⟩,
    ⟨some 98, none, .call n_c_law17_sorted [.k 97], [0, 1, 2], 0⟩,
    ⟨some 99, none, .ia 1 none (.k 91) (.k 92), [], 0⟩,
    ⟨none, none, .st 1 (.k 99) (.k 98), [], 0⟩] true [1, 2, 3, 5, 7, 84, 85] [1, 2, 5])
  .skip))))
  (.reg [] [⟨some 100, none, .bin .add (.k 85) (.c (.i .i64 1)), [], 0⟩,
    ⟨some 85, none, .mv (.k 100), [], 0⟩] false [1, 2, 3, 5, 7, 84, 85] [1, 2, 5])))))))
  (.seq (.seq (.reg [] [⟨some 101, none, .mv (.k 7), [], 0⟩,
    ⟨some 102, none, .mv (.c (.i .i64 0)), [], 0⟩] false [1, 2, 5, 101, 102] [1, 2, 5])
  (.blk 6 (.loop (.seq (.reg [] [⟨some 103, none, .bin .lss (.t 102) (.t 101), [], 0⟩] false [1, 2, 5, 101, 102, 103] [1, 2, 5])
  (.seq (.cond 103 .skip
  (.exit 6))
  (.seq (.blk 7 (.seq (.reg [] [⟨some 104, none, .mv (.t 102), [], 0⟩,
    ⟨some 10, none, .mv (.k 104), [], 0⟩] false [1, 2, 5, 10, 101, 102] [1, 2, 5])
  (.seq (.reg [] [⟨some 11, none, .mv (.c (.i .i64 0)), [], 0⟩] false [1, 2, 5, 10, 11, 101, 102] [1, 2, 5])
  (.seq (.seq (.reg [] [⟨some 105, none, .mv (.t 10), [], 0⟩,
    ⟨some 106, none, .fa 4 (.t 1), [], 0⟩,
    ⟨some 107, none, .ld false 1 .cp (.k 106), [], 0⟩,
    ⟨some 108, none, .len false (.k 107), [], 0⟩,
    ⟨some 109, none, .bin .lss (.k 105) (.k 108), [], 0⟩] false [1, 2, 5, 10, 11, 101, 102, 109] [1, 2, 5])
  (.cond 109 (.reg [] [⟨some 110, none, .fa 4 (.t 1), [], 0⟩,
    ⟨some 111, none, .ld false 1 .cp (.k 110), [], 0⟩,
    ⟨some 112, none, .mv (.k 10), [], 0⟩,
    ⟨some 113, none, .ia 1 none (.k 111) (.k 112), [], 0⟩,
    ⟨some 114, none, .ld false 1 .cp (.k 113), [], 0⟩,
    ⟨some 115, none, .bin .and (.k 114) (.c (.i .i64 1099511627775)), [], 0⟩,
    ⟨some 11, none, .mv (.k 115), [], 0⟩] false [1, 2, 5, 11, 101, 102] [1, 2, 5])
  .skip))
  (.reg [] [⟨some 116, none, .fa 4 (.t 5), [], 0⟩,
    ⟨some 117, none, .ld false 1 .tk (.k 116), [], 0⟩,
    ⟨some 118, none, .mv (.k 11), [], 0⟩,
    ⟨some 119, none, .bs 1 1 (.i .i64 0) [(0, .k 118)], [], 0⟩,
    ⟨some 120, none, .app 1 8 (.k 117) (.k 119), [], 0⟩,
    ⟨some 121, none, .fa 4 (.t 5), [], 0⟩,
    ⟨none, none, .st 1 (.k 121) (.k 120), [], 0⟩] false [1, 2, 5, 101, 102] [1, 2, 5])))))
  (.reg [] [⟨some 122, none, .bin .add (.k 102) (.c (.i .i64 1)), [], 0⟩,
    ⟨some 102, none, .mv (.k 122), [], 0⟩] false [1, 2, 5, 101, 102] [1, 2, 5])))))))
  (.seq (.reg [] [⟨some 123, none, .ld true 5 .tk (.k 5), [], 0⟩,
    ⟨none, none, .st 5 (.t 2) (.k 123), [], 0⟩] false [2] [2])
  .ret)))))))))⟩

def F_image_Image_Check : F := ⟨1, [.inl 2],
  (.seq (.reg [.zz 0] [⟨some 1, none, .bx (.k 0), [], 0⟩,
    ⟨some 2, none, .mv (.c (.i .i64 0)), [], 0⟩] false [1] [1])
  (.seq (.seq (.reg [] [⟨some 13, none, .fa 0 (.t 1), [], 0⟩,
    ⟨some 14, none, .ld false 1 .cp (.k 13), [], 0⟩,
    ⟨some 15, none, .fa 1 (.t 1), [], 0⟩,
    ⟨some 16, none, .ld false 1 .cp (.k 15), [], 0⟩,
    ⟨some 17, none, .call n_op_Legal [.k 14, .k 16], [], 0⟩,
    ⟨some 3, none, .mv (.k 17), [], 0⟩] false [1, 3] [1])
  (.seq (.reg [] [⟨some 18, none, .mv (.t 3), [], 0⟩,
    ⟨some 19, none, .bin .neq (.k 18) (.c (.i .i64 0)), [], 0⟩] false [1, 3, 19] [1])
  (.cond 19 (.seq (.reg [] [⟨some 20, none, .mv (.k 3), [], 0⟩,
    ⟨some 2, none, .mv (.k 20), [], 0⟩] false [2] [])
  .ret)
  .skip)))
  (.seq (.reg [] [⟨some 22, none, .fa 0 (.t 1), [], 0⟩,
    ⟨some 23, none, .ld false 1 .cp (.k 22), [], 0⟩,
    ⟨some 24, none, .fa 1 (.t 1), [], 0⟩,
    ⟨some 25, none, .ld false 1 .cp (.k 24), [], 0⟩,
    ⟨some 26, none, .call n_image_Shape [.k 23, .k 25], [], 0⟩,
    ⟨some 21, none, .mv (.k 26), [], 0⟩,
    ⟨some 27, none, .ex false 0 21, [], 0⟩,
    ⟨some 28, none, .ex false 1 21, [], 0⟩,
    ⟨some 4, none, .mv (.k 27), [], 0⟩,
    ⟨some 5, none, .mv (.k 28), [], 0⟩] false [1, 4, 5] [1])
  (.seq (.seq (.reg [] [⟨some 29, none, .fa 3 (.t 1), [], 0⟩,
    ⟨some 30, none, .ld false 1 .cp (.k 29), [], 0⟩,
    ⟨some 31, none, .len false (.k 30), [], 0⟩,
    ⟨some 32, none, .mv (.k 4), [], 0⟩,
    ⟨some 33, none, .bin .neq (.k 31) (.k 32), [], 0⟩,
    ⟨some 34, none, .mv (.k 33), [], 0⟩,
    ⟨some 35, some (34, false), .fa 4 (.t 1), [], 0⟩,
    ⟨some 36, some (34, false), .ld false 1 .cp (.k 35), [], 0⟩,
    ⟨some 37, some (34, false), .len false (.k 36), [], 0⟩,
    ⟨some 38, some (34, false), .mv (.k 5), [], 0⟩,
    ⟨some 39, some (34, false), .bin .neq (.k 37) (.k 38), [], 0⟩,
    ⟨some 40, none, .pick (.k 34) (.c (.b true)) (.k 39), [], 0⟩] false [1, 40] [1])
  (.cond 40 (.seq (.reg [] [⟨some 2, none, .mv (.c (.i .i64 2)), [], 0⟩] false [2] [])
  .ret)
  .skip))
  (.seq (.reg [] [⟨some 6, none, .mv (.c (.i .i64 0)), [], 0⟩] false [1, 6] [1])
  (.seq (.seq (.reg [] [⟨some 41, none, .fa 3 (.t 1), [], 0⟩,
    ⟨some 42, none, .ld false 1 .cp (.k 41), [], 0⟩,
    ⟨some 43, none, .len false (.t 42), [], 0⟩,
    ⟨some 44, none, .mv (.c (.i .i64 0)), [], 0⟩] false [1, 6, 42, 43, 44] [1])
  (.blk 0 (.loop (.seq (.reg [] [⟨some 45, none, .bin .lss (.t 44) (.t 43), [], 0⟩] false [1, 6, 42, 43, 44, 45] [1])
  (.seq (.cond 45 .skip
  (.exit 0))
  (.seq (.blk 1 (.seq (.reg [] [⟨some 46, none, .ia 1 none (.t 42) (.t 44), [], 0⟩,
    ⟨some 47, none, .ld false 1 .cp (.k 46), [], 0⟩,
    ⟨some 8, none, .mv (.k 47), [], 0⟩] false [1, 6, 8, 42, 43, 44] [1])
  (.seq (.seq (.reg [] [⟨some 48, none, .fa 0 (.t 1), [], 0⟩,
    ⟨some 49, none, .ld false 1 .cp (.k 48), [], 0⟩,
    ⟨some 50, none, .mv (.t 8), [], 2⟩,
    ⟨some 51, none, .call n_image_order [.k 49, .k 50], [], 0⟩,
    ⟨some 9, none, .mv (.k 51), [], 0⟩] false [1, 6, 8, 9, 42, 43, 44] [1])
  (.seq (.reg [] [⟨some 52, none, .mv (.t 9), [], 0⟩,
    ⟨some 53, none, .bin .neq (.k 52) (.c (.i .i64 0)), [], 0⟩] false [1, 6, 8, 9, 42, 43, 44, 53] [1])
  (.cond 53 (.seq (.reg [] [⟨some 54, none, .mv (.k 9), [], 0⟩,
    ⟨some 2, none, .mv (.k 54), [], 0⟩] false [2] [])
  .ret)
  .skip)))
  (.reg [] [⟨some 55, none, .mv (.k 6), [], 0⟩,
    ⟨some 56, none, .mv (.k 8), [], 0⟩,
    ⟨some 57, none, .len false (.k 56), [], 0⟩,
    ⟨some 58, none, .bin .add (.k 55) (.k 57), [], 0⟩,
    ⟨some 6, none, .mv (.k 58), [], 0⟩] false [1, 6, 42, 43, 44] [1]))))
  (.reg [] [⟨some 59, none, .bin .add (.k 44) (.c (.i .i64 1)), [], 0⟩,
    ⟨some 44, none, .mv (.k 59), [], 0⟩] false [1, 6, 42, 43, 44] [1])))))))
  (.seq (.seq (.reg [] [⟨some 60, none, .mv (.k 6), [], 0⟩,
    ⟨some 61, none, .bin .gtr (.k 60) (.c (.i .i64 1000)), [], 0⟩] false [1, 61] [1])
  (.cond 61 (.seq (.reg [] [⟨some 2, none, .mv (.c (.i .i64 3)), [], 0⟩] false [2] [])
  .ret)
  .skip))
  (.seq (.reg [] [⟨some 10, none, .mv (.c (.i .i64 0)), [], 0⟩] false [1, 10] [1])
  (.seq (.seq (.reg [] [⟨some 62, none, .fa 4 (.k 1), [], 0⟩,
    ⟨some 63, none, .ld false 1 .tk (.k 62), [], 0⟩,
    ⟨some 64, none, .len false (.t 63), [], 0⟩,
    ⟨some 65, none, .mv (.c (.i .i64 0)), [], 0⟩] false [10, 63, 64, 65] [])
  (.blk 2 (.loop (.seq (.reg [] [⟨some 66, none, .bin .lss (.t 65) (.t 64), [], 0⟩] false [10, 63, 64, 65, 66] [])
  (.seq (.cond 66 .skip
  (.exit 2))
  (.seq (.blk 3 (.seq (.reg [] [⟨some 67, none, .ia 1 none (.t 63) (.t 65), [], 0⟩,
    ⟨some 68, none, .ld false 1 .cp (.k 67), [], 0⟩,
    ⟨some 12, none, .mv (.k 68), [], 0⟩] false [10, 12, 63, 64, 65] [])
  (.seq (.seq (.reg [] [⟨some 69, none, .mv (.t 12), [], 0⟩,
    ⟨some 70, none, .bin .lss (.k 69) (.c (.i .i64 0)), [], 0⟩,
    ⟨some 71, none, .mv (.k 70), [], 0⟩,
    ⟨some 72, some (71, false), .mv (.t 12), [], 0⟩,
    ⟨some 73, some (71, false), .bin .gtr (.k 72) (.c (.i .i64 1125899906842624)), [], 0⟩,
    ⟨some 74, none, .pick (.k 71) (.c (.b true)) (.k 73), [], 0⟩] false [10, 12, 63, 64, 65, 74] [])
  (.cond 74 (.seq (.reg [] [⟨some 2, none, .mv (.c (.i .i64 4)), [], 0⟩] false [2] [])
  .ret)
  .skip))
  (.reg [] [⟨some 75, none, .mv (.k 10), [], 0⟩,
    ⟨some 76, none, .mv (.k 12), [], 0⟩,
    ⟨some 77, none, .bin .add (.k 75) (.k 76), [], 0⟩,
    ⟨some 10, none, .mv (.k 77), [], 0⟩] false [10, 63, 64, 65] []))))
  (.reg [] [⟨some 78, none, .bin .add (.k 65) (.c (.i .i64 1)), [], 0⟩,
    ⟨some 65, none, .mv (.k 78), [], 0⟩] false [10, 63, 64, 65] [])))))))
  (.seq (.seq (.reg [] [⟨some 79, none, .mv (.k 10), [], 0⟩,
    ⟨some 80, none, .bin .gtr (.k 79) (.c (.i .i64 1125899906842624)), [], 0⟩] false [80] [])
  (.cond 80 (.seq (.reg [] [⟨some 2, none, .mv (.c (.i .i64 4)), [], 0⟩] false [2] [])
  .ret)
  .skip))
  (.seq (.reg [] [⟨some 2, none, .mv (.c (.i .i64 0)), [], 0⟩] false [2] [])
  .ret)))))))))))⟩

def F_c_ref17_Check : F := ⟨1, [.inl 2],
  (.seq (.reg [.zz 0] [⟨some 1, none, .bx (.k 0), [], 0⟩,
    ⟨some 2, none, .mv (.c (.i .i64 0)), [], 0⟩] false [1] [1])
  (.seq (.seq (.reg [] [⟨some 13, none, .fa 0 (.t 1), [], 0⟩,
    ⟨some 14, none, .ld false 1 .cp (.k 13), [], 0⟩,
    ⟨some 15, none, .fa 1 (.t 1), [], 0⟩,
    ⟨some 16, none, .ld false 1 .cp (.k 15), [], 0⟩,
    ⟨some 17, none, .call n_c_ref06_Legal [.k 14, .k 16], [], 0⟩,
    ⟨some 3, none, .mv (.k 17), [], 0⟩] false [1, 3] [1])
  (.seq (.reg [] [⟨some 18, none, .mv (.t 3), [], 0⟩,
    ⟨some 19, none, .bin .neq (.k 18) (.c (.i .i64 0)), [], 0⟩] false [1, 3, 19] [1])
  (.cond 19 (.seq (.reg [] [⟨some 20, none, .mv (.k 3), [], 0⟩,
    ⟨some 2, none, .mv (.k 20), [], 0⟩] false [2] [])
  .ret)
  .skip)))
  (.seq (.reg [] [⟨some 21, none, .fa 1 (.t 1), [], 0⟩,
    ⟨some 22, none, .ld false 1 .cp (.k 21), [], 0⟩,
    ⟨some 23, none, .bs 1 5 (.i .i64 0) [(0, .c (.i .i64 0)), (1, .k 22), (2, .c (.i .i64 1)), (3, .c (.i .i64 0)), (4, .c (.i .i64 0))], [], 1⟩,
    ⟨some 24, none, .fa 0 (.t 1), [], 0⟩,
    ⟨some 25, none, .ld false 1 .cp (.k 24), [], 0⟩,
    ⟨some 26, none, .ia 1 none (.k 23) (.k 25), [], 0⟩,
    ⟨some 27, none, .ld false 1 .cp (.k 26), [], 0⟩,
    ⟨some 4, none, .mv (.k 27), [], 0⟩] false [1, 4] [1])
  (.seq (.reg [] [⟨some 28, none, .fa 1 (.t 1), [], 0⟩,
    ⟨some 29, none, .ld false 1 .cp (.k 28), [], 0⟩,
    ⟨some 30, none, .bs 1 5 (.i .i64 0) [(0, .c (.i .i64 0)), (1, .c (.i .i64 0)), (2, .c (.i .i64 0)), (3, .k 29), (4, .c (.i .i64 1))], [], 1⟩,
    ⟨some 31, none, .fa 0 (.t 1), [], 0⟩,
    ⟨some 32, none, .ld false 1 .cp (.k 31), [], 0⟩,
    ⟨some 33, none, .ia 1 none (.k 30) (.k 32), [], 0⟩,
    ⟨some 34, none, .ld false 1 .cp (.k 33), [], 0⟩,
    ⟨some 5, none, .mv (.k 34), [], 0⟩] false [1, 4, 5] [1])
  (.seq (.seq (.reg [] [⟨some 35, none, .fa 3 (.t 1), [], 0⟩,
    ⟨some 36, none, .ld false 1 .cp (.k 35), [], 0⟩,
    ⟨some 37, none, .len false (.k 36), [], 0⟩,
    ⟨some 38, none, .mv (.k 4), [], 0⟩,
    ⟨some 39, none, .bin .neq (.k 37) (.k 38), [], 0⟩,
    ⟨some 40, none, .mv (.k 39), [], 0⟩,
    ⟨some 41, some (40, false), .fa 4 (.t 1), [], 0⟩,
    ⟨some 42, some (40, false), .ld false 1 .cp (.k 41), [], 0⟩,
    ⟨some 43, some (40, false), .len false (.k 42), [], 0⟩,
    ⟨some 44, some (40, false), .mv (.k 5), [], 0⟩,
    ⟨some 45, some (40, false), .bin .neq (.k 43) (.k 44), [], 0⟩,
    ⟨some 46, none, .pick (.k 40) (.c (.b true)) (.k 45), [], 0⟩] false [1, 46] [1])
  (.cond 46 (.seq (.reg [] [⟨some 2, none, .mv (.c (.i .i64 2)), [], 0⟩] false [2] [])
  .ret)
  .skip))
  (.seq (.reg [] [⟨some 6, none, .mv (.c (.i .i64 0)), [], 0⟩] false [1, 6] [1])
  (.seq (.seq (.reg [] [⟨some 47, none, .fa 3 (.t 1), [], 0⟩,
    ⟨some 48, none, .ld false 1 .cp (.k 47), [], 0⟩,
    ⟨some 49, none, .len false (.t 48), [], 0⟩,
    ⟨some 50, none, .mv (.c (.i .i64 0)), [], 0⟩] false [1, 6, 48, 49, 50] [1])
  (.blk 0 (.loop (.seq (.reg [] [⟨some 51, none, .bin .lss (.t 50) (.t 49), [], 0⟩] false [1, 6, 48, 49, 50, 51] [1])
  (.seq (.cond 51 .skip
  (.exit 0))
  (.seq (.blk 1 (.seq (.reg [] [⟨some 52, none, .ia 1 none (.t 48) (.t 50), [], 0⟩,
    ⟨some 53, none, .ld false 1 .cp (.k 52), [], 0⟩,
    ⟨some 8, none, .mv (.k 53), [], 0⟩] false [1, 6, 8, 48, 49, 50] [1])
  (.seq (.reg [] [⟨some 54, none, .mv (.k 6), [], 0⟩,
    ⟨some 55, none, .mv (.t 8), [], 0⟩,
    ⟨some 56, none, .len false (.k 55), [], 0⟩,
    ⟨some 57, none, .bin .add (.k 54) (.k 56), [], 0⟩,
    ⟨some 6, none, .mv (.k 57), [], 0⟩] false [1, 6, 8, 48, 49, 50] [1])
  (.seq (.seq (.reg [] [⟨some 58, none, .fa 0 (.t 1), [], 0⟩,
    ⟨some 59, none, .ld false 1 .cp (.k 58), [], 0⟩,
    ⟨some 60, none, .bin .eql (.k 59) (.c (.i .i64 2)), [], 0⟩] false [1, 6, 8, 48, 49, 50, 60] [1])
  (.cond 60 (.exit 1)
  .skip))
  (.seq (.seq (.reg [] [⟨some 61, none, .mv (.t 8), [], 0⟩,
    ⟨some 62, none, .len false (.k 61), [], 0⟩,
    ⟨some 63, none, .bin .gtr (.k 62) (.c (.i .i64 62)), [], 0⟩] false [1, 6, 8, 48, 49, 50, 63] [1])
  (.cond 63 (.seq (.reg [] [⟨some 2, none, .mv (.c (.i .i64 3)), [], 0⟩] false [2] [])
  .ret)
  .skip))
  (.seq (.reg [] [⟨some 9, none, .mv (.c (.i .i64 1)), [], 0⟩] false [1, 6, 8, 9, 48, 49, 50] [1])
  (.blk 2 (.loop (.seq (.seq (.reg [] [⟨some 64, none, .mv (.t 9), [], 0⟩,
    ⟨some 65, none, .mv (.t 8), [], 0⟩,
    ⟨some 66, none, .len false (.k 65), [], 0⟩,
    ⟨some 67, none, .bin .lss (.k 64) (.k 66), [], 0⟩] false [1, 6, 8, 9, 48, 49, 50, 67] [1])
  (.cond 67 .skip
  (.exit 2)))
  (.seq (.blk 3 (.seq (.reg [] [⟨some 70, none, .mv (.t 8), [], 0⟩,
    ⟨some 71, none, .mv (.t 9), [0], 0⟩,
    ⟨some 72, none, .bin .sub (.k 71) (.c (.i .i64 1)), [0], 0⟩,
    ⟨some 73, none, .ia 2 none (.k 70) (.k 72), [], 0⟩,
    ⟨some 74, none, .ld true 2 .cp (.k 73), [], 0⟩,
    ⟨some 75, none, .mv (.t 8), [0, 1, 2, 3, 4], 0⟩,
    ⟨some 76, none, .mv (.t 9), [0, 1, 2, 3, 4, 5], 0⟩,
    ⟨some 77, none, .ia 2 none (.k 75) (.k 76), [0, 1, 2, 3, 4], 0⟩,
    ⟨some 78, none, .ld true 2 .cp (.k 77), [0, 1, 2, 3, 4], 0⟩,
    ⟨some 79, none, .call n_c_ref04_Cmp [.k 74, .k 78], [], 0⟩,
    ⟨some 80, none, .bin .gtr (.k 79) (.c (.i .i64 0)), [], 0⟩] true [1, 6, 8, 9, 48, 49, 50, 80] [1])
  (.cond 80 (.seq (.reg [] [⟨some 2, none, .mv (.c (.i .i64 14)), [], 0⟩] false [2] [])
  .ret)
  .skip)))
  (.reg [] [⟨some 68, none, .mv (.k 9), [], 0⟩,
    ⟨some 69, none, .bin .add (.k 68) (.c (.i .i64 1)), [], 0⟩,
    ⟨some 9, none, .mv (.k 69), [], 0⟩] false [1, 6, 8, 9, 48, 49, 50] [1])))))))))))
  (.reg [] [⟨some 81, none, .bin .add (.k 50) (.c (.i .i64 1)), [], 0⟩,
    ⟨some 50, none, .mv (.k 81), [], 0⟩] false [1, 6, 48, 49, 50] [1])))))))
  (.seq (.seq (.reg [] [⟨some 82, none, .mv (.k 6), [], 0⟩,
    ⟨some 83, none, .bin .gtr (.k 82) (.c (.i .i64 1000)), [], 0⟩] false [1, 83] [1])
  (.cond 83 (.seq (.reg [] [⟨some 2, none, .mv (.c (.i .i64 3)), [], 0⟩] false [2] [])
  .ret)
  .skip))
  (.seq (.reg [] [⟨some 10, none, .mv (.c (.i .i64 0)), [], 0⟩] false [1, 10] [1])
  (.seq (.seq (.reg [] [⟨some 84, none, .fa 4 (.k 1), [], 0⟩,
    ⟨some 85, none, .ld false 1 .tk (.k 84), [], 0⟩,
    ⟨some 86, none, .len false (.t 85), [], 0⟩,
    ⟨some 87, none, .mv (.c (.i .i64 0)), [], 0⟩] false [10, 85, 86, 87] [])
  (.blk 4 (.loop (.seq (.reg [] [⟨some 88, none, .bin .lss (.t 87) (.t 86), [], 0⟩] false [10, 85, 86, 87, 88] [])
  (.seq (.cond 88 .skip
  (.exit 4))
  (.seq (.blk 5 (.seq (.reg [] [⟨some 89, none, .ia 1 none (.t 85) (.t 87), [], 0⟩,
    ⟨some 90, none, .ld false 1 .cp (.k 89), [], 0⟩,
    ⟨some 12, none, .mv (.k 90), [], 0⟩] false [10, 12, 85, 86, 87] [])
  (.seq (.seq (.reg [] [⟨some 91, none, .mv (.t 12), [], 0⟩,
    ⟨some 92, none, .bin .lss (.k 91) (.c (.i .i64 0)), [], 0⟩,
    ⟨some 93, none, .mv (.k 92), [], 0⟩,
    ⟨some 94, some (93, false), .mv (.t 12), [], 0⟩,
    ⟨some 95, some (93, false), .bin .gtr (.k 94) (.c (.i .i64 1125899906842624)), [], 0⟩,
    ⟨some 96, none, .pick (.k 93) (.c (.b true)) (.k 95), [], 0⟩] false [10, 12, 85, 86, 87, 96] [])
  (.cond 96 (.seq (.reg [] [⟨some 2, none, .mv (.c (.i .i64 4)), [], 0⟩] false [2] [])
  .ret)
  .skip))
  (.reg [] [⟨some 97, none, .mv (.k 10), [], 0⟩,
    ⟨some 98, none, .mv (.k 12), [], 0⟩,
    ⟨some 99, none, .bin .add (.k 97) (.k 98), [], 0⟩,
    ⟨some 10, none, .mv (.k 99), [], 0⟩] false [10, 85, 86, 87] []))))
  (.reg [] [⟨some 100, none, .bin .add (.k 87) (.c (.i .i64 1)), [], 0⟩,
    ⟨some 87, none, .mv (.k 100), [], 0⟩] false [10, 85, 86, 87] [])))))))
  (.seq (.seq (.reg [] [⟨some 101, none, .mv (.k 10), [], 0⟩,
    ⟨some 102, none, .bin .gtr (.k 101) (.c (.i .i64 1125899906842624)), [], 0⟩] false [102] [])
  (.cond 102 (.seq (.reg [] [⟨some 2, none, .mv (.c (.i .i64 4)), [], 0⟩] false [2] [])
  .ret)
  .skip))
  (.seq (.reg [] [⟨some 2, none, .mv (.c (.i .i64 0)), [], 0⟩] false [2] [])
  .ret))))))))))))⟩

def F_c_law17_Told : F := ⟨1, [.inr (2, true, 5)],
  (.seq (.reg [.zz 0] [⟨some 1, none, .bx (.k 0), [], 0⟩,
    ⟨some 2, none, .al ([.i .i64 0, .i .i64 0, .i .u64 0, .l .o 1 [], .l .o 1 []]), [], 0⟩] false [1, 2] [1, 2])
  (.seq (.reg [] [⟨some 11, none, .fa 0 (.t 1), [], 0⟩,
    ⟨some 12, none, .ld false 1 .cp (.k 11), [], 0⟩,
    ⟨some 13, none, .fa 1 (.t 1), [], 0⟩,
    ⟨some 14, none, .ld false 1 .cp (.k 13), [], 0⟩,
    ⟨some 15, none, .fa 2 (.t 1), [], 0⟩,
    ⟨some 16, none, .ld false 1 .cp (.k 15), [], 0⟩,
    ⟨some 17, none, .bd ([.i .i64 0, .i .i64 0, .i .u64 0, .l .o 1 [], .l .o 1 []]) [(0, 1, .k 12), (1, 1, .k 14), (2, 1, .k 16)], [], 0⟩,
    ⟨some 3, none, .al ([.i .i64 0, .i .i64 0, .i .u64 0, .l .o 1 [], .l .o 1 []]), [], 0⟩,
    ⟨none, none, .st 5 (.t 3) (.k 17), [], 0⟩] false [1, 2, 3] [1, 2, 3])
  (.seq (.seq (.reg [] [⟨some 18, none, .fa 3 (.t 1), [], 0⟩,
    ⟨some 19, none, .ld false 1 .cp (.k 18), [], 0⟩,
    ⟨some 20, none, .len false (.t 19), [], 0⟩,
    ⟨some 21, none, .mv (.c (.i .i64 0)), [], 0⟩] false [1, 2, 3, 19, 20, 21] [1, 2, 3])
  (.blk 0 (.loop (.seq (.reg [] [⟨some 22, none, .bin .lss (.t 21) (.t 20), [], 0⟩] false [1, 2, 3, 19, 20, 21, 22] [1, 2, 3])
  (.seq (.cond 22 .skip
  (.exit 0))
  (.seq (.blk 1 (.seq (.reg [] [⟨some 23, none, .ia 1 none (.t 19) (.t 21), [], 0⟩,
    ⟨some 24, none, .ld false 1 .cp (.k 23), [], 0⟩,
    ⟨some 5, none, .mv (.k 24), [], 0⟩] false [1, 2, 3, 5, 19, 20, 21] [1, 2, 3])
  (.seq (.reg [] [⟨some 25, none, .bs 2 0 (.a ([.i .u64 0, .i .i64 0])) [], [], 1⟩,
    ⟨some 6, none, .mv (.k 25), [], 0⟩] false [1, 2, 3, 5, 6, 19, 20, 21] [1, 2, 3])
  (.seq (.seq (.reg [] [⟨some 26, none, .mv (.k 5), [], 0⟩,
    ⟨some 27, none, .len false (.t 26), [], 0⟩,
    ⟨some 28, none, .mv (.c (.i .i64 0)), [], 0⟩] false [1, 2, 3, 6, 19, 20, 21, 26, 27, 28] [1, 2, 3])
  (.blk 2 (.loop (.seq (.reg [] [⟨some 29, none, .bin .lss (.t 28) (.t 27), [], 0⟩] false [1, 2, 3, 6, 19, 20, 21, 26, 27, 28, 29] [1, 2, 3])
  (.seq (.cond 29 .skip
  (.exit 2))
  (.seq (.blk 3 (.seq (.reg [] [⟨some 30, none, .ia 2 none (.t 26) (.t 28), [], 0⟩,
    ⟨some 31, none, .ld true 2 .cp (.k 30), [], 0⟩,
    ⟨some 8, none, .al ([.f .f64 0, .i .i64 0]), [], 0⟩,
    ⟨none, none, .st 2 (.t 8) (.k 31), [], 0⟩] false [1, 2, 3, 6, 8, 19, 20, 21, 26, 27, 28] [1, 2, 3, 8])
  (.reg [] [⟨some 32, none, .mv (.k 6), [], 0⟩,
    ⟨some 33, none, .ld true 2 .cp (.t 8), [0], 0⟩,
    ⟨some 34, none, .call n_c_law04_Bits [.k 33], [0], 0⟩,
    ⟨some 35, none, .fa 1 (.t 8), [0, 1, 2], 0⟩,
    ⟨some 36, none, .ld false 1 .cp (.k 35), [0, 1, 2], 0⟩,
    ⟨some 37, none, .bd ([.i .u64 0, .i .i64 0]) [(0, 1, .k 34), (1, 1, .k 36)], [0], 0⟩,
    ⟨some 38, none, .bs 2 1 (.a ([.i .u64 0, .i .i64 0])) [(0, .k 37)], [0], 0⟩,
    ⟨some 39, none, .app 2 16 (.k 32) (.k 38), [], 1⟩,
    ⟨some 6, none, .mv (.k 39), [], 0⟩] true [1, 2, 3, 6, 19, 20, 21, 26, 27, 28] [1, 2, 3])))
  (.reg [] [⟨some 40, none, .bin .add (.k 28) (.c (.i .i64 1)), [], 0⟩,
    ⟨some 28, none, .mv (.k 40), [], 0⟩] false [1, 2, 3, 6, 19, 20, 21, 26, 27, 28] [1, 2, 3])))))))
  (.reg [] [⟨some 41, none, .fa 3 (.t 3), [], 0⟩,
    ⟨some 42, none, .ld false 1 .tk (.k 41), [], 0⟩,
    ⟨some 43, none, .mv (.k 6), [], 0⟩,
    ⟨some 44, none, .bs 1 1 (.l .o 2 []) [(0, .k 43)], [], 0⟩,
    ⟨some 45, none, .app 1 24 (.k 42) (.k 44), [], 1⟩,
    ⟨some 46, none, .fa 3 (.t 3), [], 0⟩,
    ⟨none, none, .st 1 (.k 46) (.k 45), [], 0⟩] false [1, 2, 3, 19, 20, 21] [1, 2, 3])))))
  (.reg [] [⟨some 47, none, .bin .add (.k 21) (.c (.i .i64 1)), [], 0⟩,
    ⟨some 21, none, .mv (.k 47), [], 0⟩] false [1, 2, 3, 19, 20, 21] [1, 2, 3])))))))
  (.seq (.seq (.reg [] [⟨some 48, none, .fa 4 (.k 1), [], 0⟩,
    ⟨some 49, none, .ld false 1 .tk (.k 48), [], 0⟩,
    ⟨some 50, none, .len false (.t 49), [], 0⟩,
    ⟨some 51, none, .mv (.c (.i .i64 0)), [], 0⟩] false [2, 3, 49, 50, 51] [2, 3])
  (.blk 4 (.loop (.seq (.reg [] [⟨some 52, none, .bin .lss (.t 51) (.t 50), [], 0⟩] false [2, 3, 49, 50, 51, 52] [2, 3])
  (.seq (.cond 52 .skip
  (.exit 4))
  (.seq (.blk 5 (.seq (.reg [] [⟨some 53, none, .ia 1 none (.t 49) (.t 51), [], 0⟩,
    ⟨some 54, none, .ld false 1 .cp (.k 53), [], 0⟩,
    ⟨some 10, none, .mv (.k 54), [], 0⟩] false [2, 3, 10, 49, 50, 51] [2, 3])
  (.reg [] [⟨some 55, none, .fa 4 (.t 3), [], 0⟩,
    ⟨some 56, none, .ld false 1 .tk (.k 55), [], 0⟩,
    ⟨some 57, none, .mv (.k 10), [], 0⟩,
    ⟨some 58, none, .bs 1 1 (.i .i64 0) [(0, .k 57)], [], 0⟩,
    ⟨some 59, none, .app 1 8 (.k 56) (.k 58), [], 1⟩,
    ⟨some 60, none, .fa 4 (.t 3), [], 0⟩,
    ⟨none, none, .st 1 (.k 60) (.k 59), [], 0⟩] false [2, 3, 49, 50, 51] [2, 3])))
  (.reg [] [⟨some 61, none, .bin .add (.k 51) (.c (.i .i64 1)), [], 0⟩,
    ⟨some 51, none, .mv (.k 61), [], 0⟩] false [2, 3, 49, 50, 51] [2, 3])))))))
  (.seq (.reg [] [⟨some 62, none, .ld true 5 .tk (.k 3), [], 0⟩,
    ⟨none, none, .st 5 (.t 2) (.k 62), [], 0⟩] false [2] [2])
  .ret)))))⟩

def F_image_Shape : F := ⟨2, [.inl 4, .inl 5],
  (.seq (.reg [] [⟨some 4, none, .mv (.c (.i .i64 0)), [], 0⟩,
    ⟨some 5, none, .mv (.c (.i .i64 0)), [], 0⟩] false [0, 1] [])
  (.seq (.seq (.reg [] [⟨some 6, none, .mv (.k 0), [], 0⟩] false [1, 6] [])
  (.blk 0 (.seq (.reg [] [⟨some 8, none, .bin .eql (.t 6) (.c (.i .i64 1)), [], 0⟩,
    ⟨some 7, none, .mv (.k 8), [], 0⟩] false [1, 6, 7] [])
  (.cond 7 (.seq (.reg [] [⟨some 9, none, .mv (.k 1), [], 0⟩,
    ⟨some 4, none, .mv (.k 9), [], 0⟩,
    ⟨some 5, none, .mv (.c (.i .i64 0)), [], 0⟩] false [4, 5] [])
  .ret)
  (.seq (.reg [] [⟨some 11, none, .bin .eql (.t 6) (.c (.i .i64 2)), [], 0⟩,
    ⟨some 10, none, .mv (.k 11), [], 0⟩] false [1, 6, 10] [])
  (.cond 10 (.seq (.reg [] [⟨some 4, none, .mv (.c (.i .i64 1)), [], 0⟩,
    ⟨some 5, none, .mv (.c (.i .i64 0)), [], 0⟩] false [4, 5] [])
  .ret)
  (.seq (.reg [] [⟨some 13, none, .bin .eql (.t 6) (.c (.i .i64 3)), [], 0⟩,
    ⟨some 12, none, .mv (.k 13), [], 0⟩] false [1, 6, 12] [])
  (.cond 12 (.seq (.reg [] [⟨some 14, none, .mv (.k 1), [], 0⟩,
    ⟨some 4, none, .mv (.c (.i .i64 0)), [], 0⟩,
    ⟨some 5, none, .mv (.k 14), [], 0⟩] false [4, 5] [])
  .ret)
  (.seq (.reg [] [⟨some 16, none, .bin .eql (.k 6) (.c (.i .i64 4)), [], 0⟩,
    ⟨some 15, none, .mv (.k 16), [], 0⟩] false [15] [])
  (.cond 15 (.seq (.reg [] [⟨some 4, none, .mv (.c (.i .i64 0)), [], 0⟩,
    ⟨some 5, none, .mv (.c (.i .i64 1)), [], 0⟩] false [4, 5] [])
  .ret)
  .skip))))))))))
  (.seq (.reg [] [⟨some 4, none, .mv (.c (.i .i64 0)), [], 0⟩,
    ⟨some 5, none, .mv (.c (.i .i64 0)), [], 0⟩] false [4, 5] [])
  .ret)))⟩

def F_image_Room : F := ⟨1, [.inl 2],
  (.seq (.reg [] [⟨some 2, none, .mv (.c (.i .i64 0)), [], 0⟩] false [0] [])
  (.seq (.reg [] [⟨some 3, none, .mv (.t 0), [], 0⟩,
    ⟨some 4, none, .mx true [.k 3, .c (.i .i64 1)], [], 0⟩,
    ⟨some 5, none, .bin .quo (.c (.i .i64 998)) (.k 4), [], 0⟩,
    ⟨some 6, none, .mv (.k 0), [], 0⟩,
    ⟨some 7, none, .mx true [.k 6, .c (.i .i64 1)], [], 0⟩,
    ⟨some 8, none, .bin .mul (.k 5) (.k 7), [], 0⟩,
    ⟨some 2, none, .mv (.k 8), [], 0⟩] false [2] [])
  .ret))⟩

def F_c_law01_Cut : F := ⟨2, [.inl 4],
  (.seq (.reg [] [⟨some 4, none, .mv (.c (.s ⟨#[]⟩)), [], 0⟩] false [0, 1] [])
  (.seq (.seq (.reg [] [⟨some 5, none, .mv (.t 0), [], 0⟩,
    ⟨some 6, none, .len true (.k 5), [], 0⟩,
    ⟨some 7, none, .mv (.t 1), [], 0⟩,
    ⟨some 8, none, .bin .gtr (.k 6) (.k 7), [], 0⟩] false [0, 1, 8] [])
  (.cond 8 (.seq (.reg [] [⟨some 9, none, .mv (.k 0), [], 0⟩,
    ⟨some 10, none, .mv (.k 1), [], 0⟩,
    ⟨some 11, none, .ss (.k 9) none (some (.k 10)), [], 0⟩,
    ⟨some 4, none, .mv (.k 11), [], 0⟩] false [4] [])
  .ret)
  .skip))
  (.seq (.reg [] [⟨some 12, none, .mv (.k 0), [], 0⟩,
    ⟨some 4, none, .mv (.k 12), [], 0⟩] false [4] [])
  .ret)))⟩

def F_c_law19_awake : F := ⟨0, [.inl 0],
  (.seq (.reg [] [⟨some 0, none, .mv (.c (.b false)), [], 0⟩] false [] [])
  (.seq (.reg [] [⟨some 2, none, .bs 1 1 (.i .i64 0) [(0, .c (.i .i64 300))], [], 1⟩,
    ⟨some 3, none, .bd ([.i .i64 0, .i .i64 0, .i .u64 0, .l .o 1 [], .l .o 1 []]) [(0, 1, .c (.i .i64 4)), (1, 1, .c (.i .i64 4)), (4, 1, .k 2)], [], 2⟩,
    ⟨some 4, none, .call n_section_Of [.k 3], [], 0⟩,
    ⟨some 1, none, .mv (.k 4), [], 0⟩] false [1] [])
  (.seq (.reg [] [⟨some 5, none, .mv (.t 1), [], 0⟩,
    ⟨some 6, none, .len false (.k 5), [], 0⟩,
    ⟨some 7, none, .bin .eql (.k 6) (.c (.i .i64 2)), [], 0⟩,
    ⟨some 8, none, .mv (.k 7), [], 0⟩,
    ⟨some 9, some (8, true), .mv (.t 1), [], 0⟩,
    ⟨some 10, some (8, true), .ia 2 none (.k 9) (.c (.i .i64 0)), [], 0⟩,
    ⟨some 11, some (8, true), .ld true 2 .cp (.k 10), [], 0⟩,
    ⟨some 12, some (8, true), .bd ([.i .i64 0, .s ⟨#[]⟩]) [(0, 1, .c (.i .i64 1)), (1, 1, .c (.s ⟨#[4, 0]⟩))], [], 0⟩,
    ⟨some 13, some (8, true), .eqa false [.it, .st] (.k 11) (.k 12), [], 0⟩,
    ⟨some 14, none, .pick (.k 8) (.k 13) (.c (.b false)), [], 0⟩,
    ⟨some 15, none, .mv (.k 14), [], 0⟩,
    ⟨some 16, some (15, true), .mv (.k 1), [], 0⟩,
    ⟨some 17, some (15, true), .ia 2 none (.k 16) (.c (.i .i64 1)), [], 0⟩,
    ⟨some 18, some (15, true), .ld true 2 .cp (.k 17), [], 0⟩,
    ⟨some 19, some (15, true), .bd ([.i .i64 0, .s ⟨#[]⟩]) [(0, 1, .c (.i .i64 2)), (1, 1, .c (.s ⟨#[172, 2]⟩))], [], 0⟩,
    ⟨some 20, some (15, true), .eqa false [.it, .st] (.k 18) (.k 19), [], 0⟩,
    ⟨some 21, none, .pick (.k 15) (.k 20) (.c (.b false)), [], 0⟩,
    ⟨some 0, none, .mv (.k 21), [], 0⟩] false [0] [])
  .ret)))⟩

def F_section_Read : F := ⟨2, [.inr (4, true, 5), .inl 5],
  (.seq (.reg [.zz 1] [⟨some 4, none, .al ([.i .i64 0, .i .i64 0, .i .u64 0, .l .o 1 [], .l .o 1 []]), [], 0⟩,
    ⟨some 5, none, .mv (.c (.i .i64 0)), [], 0⟩] false [0, 1, 4] [4])
  (.seq (.blk 0 (.seq (.reg [] [⟨some 10, none, .mv (.t 0), [], 0⟩,
    ⟨some 11, none, .bin .lss (.k 10) (.c (.i .i64 1)), [], 0⟩,
    ⟨some 12, none, .mv (.k 11), [], 0⟩,
    ⟨some 13, some (12, false), .mv (.t 0), [], 0⟩,
    ⟨some 14, some (12, false), .bin .gtr (.k 13) (.c (.i .i64 4)), [], 0⟩,
    ⟨some 15, none, .pick (.k 12) (.c (.b true)) (.k 14), [], 0⟩,
    ⟨some 9, none, .mv (.k 15), [], 0⟩] false [0, 1, 4, 9] [4])
  (.cond 9 (.seq (.reg [] [⟨some 16, none, .bd ([.i .i64 0, .i .i64 0, .i .u64 0, .l .o 1 [], .l .o 1 []]) [], [], 0⟩,
    ⟨none, none, .st 5 (.t 4) (.k 16), [], 0⟩,
    ⟨some 5, none, .mv (.c (.i .i64 6)), [], 0⟩] false [4, 5] [4])
  .ret)
  (.seq (.reg [] [⟨some 18, none, .mv (.t 1), [], 0⟩,
    ⟨some 19, none, .len false (.k 18), [], 0⟩,
    ⟨some 20, none, .bin .neq (.k 19) (.c (.i .i64 2)), [], 0⟩,
    ⟨some 21, none, .mv (.k 20), [], 0⟩,
    ⟨some 22, some (21, false), .mv (.t 1), [], 0⟩,
    ⟨some 23, some (21, false), .ia 2 none (.k 22) (.c (.i .i64 0)), [], 0⟩,
    ⟨some 24, some (21, false), .fa 0 (.k 23), [], 0⟩,
    ⟨some 25, some (21, false), .ld false 1 .cp (.k 24), [], 0⟩,
    ⟨some 26, some (21, false), .bin .neq (.k 25) (.c (.i .i64 1)), [], 0⟩,
    ⟨some 27, none, .pick (.k 21) (.c (.b true)) (.k 26), [], 0⟩,
    ⟨some 28, none, .mv (.k 27), [], 0⟩,
    ⟨some 29, some (28, false), .mv (.t 1), [], 0⟩,
    ⟨some 30, some (28, false), .ia 2 none (.k 29) (.c (.i .i64 1)), [], 0⟩,
    ⟨some 31, some (28, false), .fa 0 (.k 30), [], 0⟩,
    ⟨some 32, some (28, false), .ld false 1 .cp (.k 31), [], 0⟩,
    ⟨some 33, some (28, false), .bin .neq (.k 32) (.c (.i .i64 2)), [], 0⟩,
    ⟨some 34, none, .pick (.k 28) (.c (.b true)) (.k 33), [], 0⟩,
    ⟨some 17, none, .mv (.k 34), [], 0⟩] false [0, 1, 4, 17] [4])
  (.cond 17 (.seq (.reg [] [⟨some 35, none, .bd ([.i .i64 0, .i .i64 0, .i .u64 0, .l .o 1 [], .l .o 1 []]) [], [], 0⟩,
    ⟨none, none, .st 5 (.t 4) (.k 35), [], 0⟩,
    ⟨some 5, none, .mv (.c (.i .i64 2)), [], 0⟩] false [4, 5] [4])
  .ret)
  .skip)))))
  (.seq (.reg [] [⟨some 36, none, .mv (.t 1), [], 0⟩,
    ⟨some 37, none, .ia 2 none (.k 36) (.c (.i .i64 0)), [], 0⟩,
    ⟨some 38, none, .fa 1 (.k 37), [], 0⟩,
    ⟨some 39, none, .ld false 1 .cp (.k 38), [], 0⟩,
    ⟨some 40, none, .call n_octet_Of [.k 39], [], 0⟩,
    ⟨some 6, none, .mv (.k 40), [], 0⟩] false [0, 1, 4, 6] [4])
  (.seq (.reg [] [⟨some 41, none, .mv (.t 0), [], 0⟩,
    ⟨some 42, none, .mv (.t 6), [], 0⟩,
    ⟨some 43, none, .call n_octet_In_Num [.k 42, .c (.i .u64 255)], [], 0⟩,
    ⟨some 44, none, .cv (.int .i64) (.k 43), [], 0⟩,
    ⟨some 45, none, .bd ([.i .i64 0, .i .i64 0, .i .u64 0, .l .o 1 [], .l .o 1 []]) [(0, 1, .k 41), (1, 1, .k 44)], [], 0⟩,
    ⟨some 7, none, .al ([.i .i64 0, .i .i64 0, .i .u64 0, .l .o 1 [], .l .o 1 []]), [], 0⟩,
    ⟨none, none, .st 5 (.t 7) (.k 45), [], 0⟩] false [0, 1, 4, 6, 7] [4, 7])
  (.seq (.reg [] [⟨some 46, none, .mv (.t 6), [], 0⟩,
    ⟨some 47, none, .call n_octet_In_Num [.k 46, .c (.i .u64 18446744073709551615)], [], 0⟩,
    ⟨some 48, none, .fa 2 (.t 7), [], 0⟩,
    ⟨none, none, .st 1 (.k 48) (.k 47), [], 0⟩] false [0, 1, 4, 6, 7] [4, 7])
  (.seq (.reg [] [⟨some 49, none, .mv (.k 6), [], 0⟩,
    ⟨some 50, none, .call n_octet_In_End [.k 49], [], 0⟩,
    ⟨some 8, none, .mv (.k 50), [], 0⟩] false [0, 1, 4, 7, 8] [4, 7])
  (.seq (.seq (.reg [] [⟨some 51, none, .mv (.t 8), [], 0⟩,
    ⟨some 52, none, .bin .eql (.k 51) (.c (.i .i64 0)), [], 0⟩] false [0, 1, 4, 7, 8, 52] [4, 7])
  (.cond 52 (.reg [] [⟨some 54, none, .mv (.k 0), [], 0⟩,
    ⟨some 55, none, .fa 1 (.t 7), [0], 0⟩,
    ⟨some 56, none, .ld false 1 .cp (.k 55), [0], 0⟩,
    ⟨some 57, none, .mv (.k 1), [0, 1, 2], 0⟩,
    ⟨some 58, none, .ia 2 none (.k 57) (.c (.i .i64 1)), [0, 1, 2], 0⟩,
    ⟨some 59, none, .fa 1 (.k 58), [0, 1, 2], 0⟩,
    ⟨some 60, none, .ld false 1 .cp (.k 59), [0, 1, 2], 0⟩,
    ⟨some 61, none, .call n_octet_Of [.k 60], [0, 1, 2], 0⟩,
    ⟨some 62, none, .call n_section_read [.k 54, .k 56, .k 61], [], 0⟩,
    ⟨some 53, none, .mv (.k 62), [], 0⟩,
    ⟨some 63, none, .ex false 0 53, [], 0⟩,
    ⟨some 64, none, .ex false 1 53, [10], 0⟩,
    ⟨some 65, none, .ex false 2 53, [10, 11], 0⟩,
    ⟨some 66, none, .fa 3 (.t 7), [11, 12], 0⟩,
    ⟨none, none, .st 1 (.k 66) (.k 63), [11, 12], 0⟩,
    ⟨some 67, none, .fa 4 (.t 7), [12], 0⟩,
    ⟨none, none, .st 1 (.k 67) (.k 64), [12], 0⟩,
    ⟨some 8, none, .mv (.k 65), [], 0⟩] true [4, 7, 8] [4, 7])
  .skip))
  (.seq (.seq (.reg [] [⟨some 68, none, .mv (.t 8), [], 0⟩,
    ⟨some 69, none, .bin .neq (.k 68) (.c (.i .i64 0)), [], 0⟩] false [4, 7, 8, 69] [4, 7])
  (.cond 69 (.seq (.reg [] [⟨some 70, none, .bd ([.i .i64 0, .i .i64 0, .i .u64 0, .l .o 1 [], .l .o 1 []]) [], [], 0⟩,
    ⟨some 71, none, .mv (.k 8), [], 0⟩,
    ⟨none, none, .st 5 (.t 4) (.k 70), [], 0⟩,
    ⟨some 5, none, .mv (.k 71), [], 0⟩] false [4, 5] [4])
  .ret)
  .skip))
  (.seq (.reg [] [⟨some 72, none, .ld true 5 .tk (.k 7), [], 0⟩,
    ⟨none, none, .st 5 (.t 4) (.k 72), [], 0⟩,
    ⟨some 5, none, .mv (.c (.i .i64 0)), [], 0⟩] false [4, 5] [4])
  .ret)))))))))⟩

def F_c_ref19_Read : F := ⟨3, [.inr (6, true, 5), .inl 7],
  (.seq (.reg [] [⟨some 6, none, .al ([.i .i64 0, .i .i64 0, .i .u64 0, .l .o 1 [], .l .o 1 []]), [], 0⟩,
    ⟨some 7, none, .mv (.c (.i .i64 0)), [], 0⟩] false [0, 1, 2, 6] [6])
  (.seq (.reg [] [⟨some 25, none, .mv (.k 1), [], 0⟩,
    ⟨some 26, none, .bd ([.s ⟨#[]⟩, .i .i64 0]) [(0, 1, .k 25)], [], 0⟩,
    ⟨some 27, none, .call n_c_ref01_Number [.k 26, .c (.i .u64 255)], [], 0⟩,
    ⟨some 24, none, .mv (.k 27), [], 0⟩,
    ⟨some 28, none, .ex false 0 24, [], 0⟩,
    ⟨some 29, none, .ex false 1 24, [], 0⟩,
    ⟨some 8, none, .al ([.s ⟨#[]⟩, .i .i64 0]), [], 0⟩,
    ⟨none, none, .st 2 (.t 8) (.k 28), [], 0⟩,
    ⟨some 9, none, .mv (.k 29), [], 0⟩] false [0, 2, 6, 8, 9] [6, 8])
  (.seq (.reg [] [⟨some 31, none, .ld true 2 .cp (.k 8), [], 0⟩,
    ⟨some 32, none, .call n_c_ref01_Number [.k 31, .c (.i .u64 18446744073709551615)], [], 0⟩,
    ⟨some 30, none, .mv (.k 32), [], 0⟩,
    ⟨some 33, none, .ex false 0 30, [], 0⟩,
    ⟨some 34, none, .ex false 1 30, [], 0⟩,
    ⟨some 10, none, .al ([.s ⟨#[]⟩, .i .i64 0]), [], 0⟩,
    ⟨none, none, .st 2 (.t 10) (.k 33), [], 0⟩,
    ⟨some 11, none, .mv (.k 34), [], 0⟩] false [0, 2, 6, 9, 10, 11] [6, 10])
  (.seq (.seq (.reg [] [⟨some 35, none, .ld true 2 .cp (.k 10), [], 0⟩,
    ⟨some 36, none, .call n_c_ref19_end [.k 35], [], 0⟩,
    ⟨some 12, none, .al ([.s ⟨#[]⟩, .i .i64 0]), [], 0⟩,
    ⟨none, none, .st 2 (.t 12) (.k 36), [], 0⟩] false [0, 2, 6, 9, 11, 12] [6, 12])
  (.seq (.reg [] [⟨some 37, none, .fa 1 (.t 12), [], 0⟩,
    ⟨some 38, none, .ld false 1 .cp (.k 37), [], 0⟩,
    ⟨some 39, none, .bin .neq (.k 38) (.c (.i .i64 0)), [], 0⟩] false [0, 2, 6, 9, 11, 12, 39] [6, 12])
  (.cond 39 (.seq (.reg [] [⟨some 40, none, .bd ([.i .i64 0, .i .i64 0, .i .u64 0, .l .o 1 [], .l .o 1 []]) [], [], 0⟩,
    ⟨some 41, none, .fa 1 (.k 12), [0], 0⟩,
    ⟨some 42, none, .ld false 1 .cp (.k 41), [0], 0⟩,
    ⟨none, none, .st 5 (.t 6) (.k 40), [1, 2], 0⟩,
    ⟨some 7, none, .mv (.k 42), [], 0⟩] true [6, 7] [6])
  .ret)
  .skip)))
  (.seq (.reg [] [⟨some 43, none, .mv (.t 0), [], 0⟩,
    ⟨some 44, none, .mv (.k 9), [], 0⟩,
    ⟨some 45, none, .cv (.int .i64) (.k 44), [], 0⟩,
    ⟨some 46, none, .mv (.k 11), [], 0⟩,
    ⟨some 47, none, .bd ([.i .i64 0, .i .i64 0, .i .u64 0, .l .o 1 [], .l .o 1 []]) [(0, 1, .k 43), (1, 1, .k 45), (2, 1, .k 46)], [], 0⟩,
    ⟨some 13, none, .al ([.i .i64 0, .i .i64 0, .i .u64 0, .l .o 1 [], .l .o 1 []]), [], 0⟩,
    ⟨none, none, .st 5 (.t 13) (.k 47), [], 0⟩] false [0, 2, 6, 13] [6, 13])
  (.seq (.reg [] [⟨some 48, none, .mv (.k 2), [], 0⟩,
    ⟨some 49, none, .bd ([.s ⟨#[]⟩, .i .i64 0]) [(0, 1, .k 48)], [], 0⟩,
    ⟨some 14, none, .al ([.s ⟨#[]⟩, .i .i64 0]), [], 0⟩,
    ⟨none, none, .st 2 (.t 14) (.k 49), [], 0⟩] false [0, 6, 13, 14] [6, 13, 14])
  (.seq (.reg [] [⟨some 50, none, .fa 1 (.t 13), [], 0⟩,
    ⟨some 51, none, .ld false 1 .cp (.k 50), [], 0⟩,
    ⟨some 52, none, .bs 1 5 (.i .i64 0) [(0, .c (.i .i64 0)), (1, .k 51), (2, .c (.i .i64 1)), (3, .c (.i .i64 0)), (4, .c (.i .i64 0))], [], 1⟩,
    ⟨some 53, none, .mv (.t 0), [], 0⟩,
    ⟨some 54, none, .ia 1 none (.k 52) (.k 53), [], 0⟩,
    ⟨some 55, none, .ld false 1 .cp (.k 54), [], 0⟩,
    ⟨some 15, none, .mv (.k 55), [], 0⟩] false [0, 6, 13, 14, 15] [6, 13, 14])
  (.seq (.reg [] [⟨some 56, none, .fa 1 (.t 13), [], 0⟩,
    ⟨some 57, none, .ld false 1 .cp (.k 56), [], 0⟩,
    ⟨some 58, none, .bs 1 5 (.i .i64 0) [(0, .c (.i .i64 0)), (1, .c (.i .i64 0)), (2, .c (.i .i64 0)), (3, .k 57), (4, .c (.i .i64 1))], [], 1⟩,
    ⟨some 59, none, .mv (.k 0), [], 0⟩,
    ⟨some 60, none, .ia 1 none (.k 58) (.k 59), [], 0⟩,
    ⟨some 61, none, .ld false 1 .cp (.k 60), [], 0⟩,
    ⟨some 16, none, .mv (.k 61), [], 0⟩] false [6, 13, 14, 15, 16] [6, 13, 14])
  (.seq (.seq (.reg [] [⟨some 17, none, .mv (.c (.i .i64 0)), [], 0⟩] false [6, 13, 14, 15, 16, 17] [6, 13, 14])
  (.blk 0 (.loop (.seq (.seq (.reg [] [⟨some 62, none, .mv (.t 17), [], 0⟩,
    ⟨some 63, none, .mv (.t 15), [], 0⟩,
    ⟨some 64, none, .bin .lss (.k 62) (.k 63), [], 0⟩] false [6, 13, 14, 15, 16, 17, 64] [6, 13, 14])
  (.cond 64 .skip
  (.exit 0)))
  (.seq (.blk 1 (.seq (.reg [] [⟨some 68, none, .ld true 2 .cp (.t 14), [], 0⟩,
    ⟨some 69, none, .call n_c_ref19_items [.k 68], [], 0⟩,
    ⟨some 67, none, .mv (.k 69), [], 0⟩,
    ⟨some 70, none, .ex false 0 67, [], 0⟩,
    ⟨some 71, none, .ex false 1 67, [], 0⟩,
    ⟨some 18, none, .al ([.s ⟨#[]⟩, .i .i64 0]), [], 0⟩,
    ⟨none, none, .st 2 (.t 18) (.k 70), [], 0⟩,
    ⟨some 19, none, .mv (.k 71), [], 0⟩] false [6, 13, 14, 15, 16, 17, 18, 19] [6, 13, 14, 18])
  (.seq (.reg [] [⟨some 72, none, .ld true 2 .cp (.k 18), [], 0⟩,
    ⟨none, none, .st 2 (.t 14) (.k 72), [], 0⟩] false [6, 13, 14, 15, 16, 17, 19] [6, 13, 14])
  (.reg [] [⟨some 73, none, .fa 3 (.t 13), [], 0⟩,
    ⟨some 74, none, .ld false 1 .tk (.k 73), [], 0⟩,
    ⟨some 75, none, .mv (.k 19), [], 0⟩,
    ⟨some 76, none, .bs 1 1 (.l .o 2 []) [(0, .k 75)], [], 0⟩,
    ⟨some 77, none, .app 1 24 (.k 74) (.k 76), [], 1⟩,
    ⟨some 78, none, .fa 3 (.t 13), [], 0⟩,
    ⟨none, none, .st 1 (.k 78) (.k 77), [], 0⟩] false [6, 13, 14, 15, 16, 17] [6, 13, 14]))))
  (.reg [] [⟨some 65, none, .mv (.k 17), [], 0⟩,
    ⟨some 66, none, .bin .add (.k 65) (.c (.i .i64 1)), [], 0⟩,
    ⟨some 17, none, .mv (.k 66), [], 0⟩] false [6, 13, 14, 15, 16, 17] [6, 13, 14]))))))
  (.seq (.seq (.reg [] [⟨some 20, none, .mv (.c (.i .i64 0)), [], 0⟩] false [6, 13, 14, 16, 20] [6, 13, 14])
  (.blk 2 (.loop (.seq (.seq (.reg [] [⟨some 79, none, .mv (.t 20), [], 0⟩,
    ⟨some 80, none, .mv (.t 16), [], 0⟩,
    ⟨some 81, none, .bin .lss (.k 79) (.k 80), [], 0⟩] false [6, 13, 14, 16, 20, 81] [6, 13, 14])
  (.cond 81 .skip
  (.exit 2)))
  (.seq (.blk 3 (.seq (.reg [] [⟨some 85, none, .ld true 2 .cp (.t 14), [], 0⟩,
    ⟨some 86, none, .call n_c_ref01_Number [.k 85, .c (.i .u64 1125899906842624)], [], 0⟩,
    ⟨some 84, none, .mv (.k 86), [], 0⟩,
    ⟨some 87, none, .ex false 0 84, [], 0⟩,
    ⟨some 88, none, .ex false 1 84, [], 0⟩,
    ⟨some 21, none, .al ([.s ⟨#[]⟩, .i .i64 0]), [], 0⟩,
    ⟨none, none, .st 2 (.t 21) (.k 87), [], 0⟩,
    ⟨some 22, none, .mv (.k 88), [], 0⟩] false [6, 13, 14, 16, 20, 21, 22] [6, 13, 14, 21])
  (.seq (.reg [] [⟨some 89, none, .ld true 2 .cp (.k 21), [], 0⟩,
    ⟨none, none, .st 2 (.t 14) (.k 89), [], 0⟩] false [6, 13, 14, 16, 20, 22] [6, 13, 14])
  (.reg [] [⟨some 90, none, .fa 4 (.t 13), [], 0⟩,
    ⟨some 91, none, .ld false 1 .tk (.k 90), [], 0⟩,
    ⟨some 92, none, .mv (.k 22), [], 0⟩,
    ⟨some 93, none, .cv (.int .i64) (.k 92), [], 0⟩,
    ⟨some 94, none, .bs 1 1 (.i .i64 0) [(0, .k 93)], [], 0⟩,
    ⟨some 95, none, .app 1 8 (.k 91) (.k 94), [], 1⟩,
    ⟨some 96, none, .fa 4 (.t 13), [], 0⟩,
    ⟨none, none, .st 1 (.k 96) (.k 95), [], 0⟩] false [6, 13, 14, 16, 20] [6, 13, 14]))))
  (.reg [] [⟨some 82, none, .mv (.k 20), [], 0⟩,
    ⟨some 83, none, .bin .add (.k 82) (.c (.i .i64 1)), [], 0⟩,
    ⟨some 20, none, .mv (.k 83), [], 0⟩] false [6, 13, 14, 16, 20] [6, 13, 14]))))))
  (.seq (.seq (.reg [] [⟨some 97, none, .ld true 2 .cp (.k 14), [], 0⟩,
    ⟨some 98, none, .call n_c_ref19_end [.k 97], [], 0⟩,
    ⟨some 23, none, .al ([.s ⟨#[]⟩, .i .i64 0]), [], 0⟩,
    ⟨none, none, .st 2 (.t 23) (.k 98), [], 0⟩] false [6, 13, 23] [6, 13, 23])
  (.seq (.reg [] [⟨some 99, none, .fa 1 (.t 23), [], 0⟩,
    ⟨some 100, none, .ld false 1 .cp (.k 99), [], 0⟩,
    ⟨some 101, none, .bin .neq (.k 100) (.c (.i .i64 0)), [], 0⟩] false [6, 13, 23, 101] [6, 13, 23])
  (.cond 101 (.seq (.reg [] [⟨some 102, none, .bd ([.i .i64 0, .i .i64 0, .i .u64 0, .l .o 1 [], .l .o 1 []]) [], [], 0⟩,
    ⟨some 103, none, .fa 1 (.k 23), [0], 0⟩,
    ⟨some 104, none, .ld false 1 .cp (.k 103), [0], 0⟩,
    ⟨none, none, .st 5 (.t 6) (.k 102), [1, 2], 0⟩,
    ⟨some 7, none, .mv (.k 104), [], 0⟩] true [6, 7] [6])
  .ret)
  .skip)))
  (.seq (.reg [] [⟨some 105, none, .ld true 5 .tk (.k 13), [], 0⟩,
    ⟨none, none, .st 5 (.t 6) (.k 105), [], 0⟩,
    ⟨some 7, none, .mv (.c (.i .i64 0)), [], 0⟩] false [6, 7] [6])
  .ret))))))))))))⟩

def F_c_law18_Is : F := ⟨2, [.inl 4],
  (.seq (.reg [.zz 0, .zz 1] [⟨some 2, none, .bx (.k 0), [], 0⟩,
    ⟨some 3, none, .bx (.k 1), [], 0⟩,
    ⟨some 4, none, .mv (.c (.i .i64 0)), [], 0⟩] false [2, 3] [2, 3])
  (.seq (.seq (.reg [] [⟨some 6, none, .fa 3 (.t 2), [], 0⟩,
    ⟨some 7, none, .ld false 1 .cp (.k 6), [], 0⟩,
    ⟨some 8, none, .len false (.k 7), [], 0⟩,
    ⟨some 9, none, .fa 3 (.t 3), [], 0⟩,
    ⟨some 10, none, .ld false 1 .cp (.k 9), [], 0⟩,
    ⟨some 11, none, .len false (.k 10), [], 0⟩,
    ⟨some 12, none, .bin .neq (.k 8) (.k 11), [], 0⟩] false [2, 3, 12] [2, 3])
  (.cond 12 (.seq (.reg [] [⟨some 4, none, .mv (.c (.i .i64 (-1))), [], 0⟩] false [4] [])
  .ret)
  .skip))
  (.seq (.seq (.reg [] [⟨some 13, none, .fa 3 (.t 3), [], 0⟩,
    ⟨some 14, none, .ld false 1 .cp (.k 13), [], 0⟩,
    ⟨some 15, none, .len false (.k 14), [], 0⟩,
    ⟨some 16, none, .mv (.c (.i .i64 0)), [], 0⟩] false [2, 3, 15, 16] [2, 3])
  (.blk 0 (.loop (.seq (.reg [] [⟨some 17, none, .bin .lss (.t 16) (.t 15), [], 0⟩] false [2, 3, 15, 16, 17] [2, 3])
  (.seq (.cond 17 .skip
  (.exit 0))
  (.seq (.blk 1 (.seq (.reg [] [⟨some 18, none, .mv (.t 16), [], 0⟩,
    ⟨some 5, none, .mv (.k 18), [], 0⟩] false [2, 3, 5, 15, 16] [2, 3])
  (.seq (.reg [] [⟨some 19, none, .fa 3 (.t 2), [], 0⟩,
    ⟨some 20, none, .ld false 1 .cp (.k 19), [], 0⟩,
    ⟨some 21, none, .mv (.t 5), [0, 1], 0⟩,
    ⟨some 22, none, .ia 1 none (.k 20) (.k 21), [], 0⟩,
    ⟨some 23, none, .ld false 1 .cp (.k 22), [], 2⟩,
    ⟨some 24, none, .fa 3 (.t 3), [0, 1, 2, 3, 4], 0⟩,
    ⟨some 25, none, .ld false 1 .cp (.k 24), [0, 1, 2, 3, 4], 0⟩,
    ⟨some 26, none, .mv (.t 5), [0, 1, 2, 3, 4, 5, 6], 0⟩,
    ⟨some 27, none, .ia 1 none (.k 25) (.k 26), [0, 1, 2, 3, 4], 0⟩,
    ⟨some 28, none, .ld false 1 .cp (.k 27), [0, 1, 2, 3, 4], 2⟩,
    ⟨some 29, none, .call n_c_law04_Are [.k 23, .k 28], [], 0⟩,
    ⟨some 30, none, .bin .neq (.k 29) (.c (.i .i64 0)), [], 0⟩] true [2, 3, 15, 16, 30] [2, 3])
  (.cond 30 (.seq (.reg [] [⟨some 4, none, .mv (.c (.i .i64 (-1))), [], 0⟩] false [4] [])
  .ret)
  .skip))))
  (.reg [] [⟨some 31, none, .bin .add (.k 16) (.c (.i .i64 1)), [], 0⟩,
    ⟨some 16, none, .mv (.k 31), [], 0⟩] false [2, 3, 15, 16] [2, 3])))))))
  (.seq (.reg [] [⟨some 32, none, .ld true 5 .cp (.k 2), [], 2⟩,
    ⟨some 33, none, .call n_c_law17_Told [.k 32], [], 2⟩,
    ⟨some 34, none, .ld true 5 .cp (.k 3), [0, 1], 2⟩,
    ⟨some 35, none, .call n_c_ref17_Same [.k 33, .k 34], [], 0⟩,
    ⟨some 4, none, .mv (.k 35), [], 0⟩] true [4] [])
  .ret))))⟩

def F_section_Of : F := ⟨1, [.inl 2],
  (.seq (.reg [.zz 0] [⟨some 1, none, .bx (.k 0), [], 0⟩,
    ⟨some 2, none, .mv (.c (.l .o 2 [])), [], 0⟩] false [1] [1])
  (.seq (.reg [] [⟨some 3, none, .ld true 5 .cp (.t 1), [], 2⟩,
    ⟨some 4, none, .call n_section_meta [.k 3], [], 0⟩,
    ⟨some 5, none, .bd ([.i .i64 0, .s ⟨#[]⟩]) [(0, 1, .c (.i .i64 1)), (1, 1, .k 4)], [], 0⟩,
    ⟨some 6, none, .ld true 5 .cp (.t 1), [0, 1, 2], 2⟩,
    ⟨some 7, none, .call n_section_data [.k 6], [2], 0⟩,
    ⟨some 8, none, .bd ([.i .i64 0, .s ⟨#[]⟩]) [(0, 1, .c (.i .i64 2)), (1, 1, .k 7)], [2], 0⟩,
    ⟨some 9, none, .bs 2 2 (.a ([.i .i64 0, .s ⟨#[]⟩])) [(0, .k 5), (1, .k 8)], [], 1⟩,
    ⟨some 2, none, .mv (.k 9), [], 0⟩] true [2] [])
  .ret))⟩

def F_c_law12_Is : F := ⟨2, [.inl 4],
  (.seq (.reg [.zz 0, .zz 1] [⟨some 2, none, .bx (.k 0), [], 0⟩,
    ⟨some 3, none, .bx (.k 1), [], 0⟩,
    ⟨some 4, none, .mv (.c (.i .i64 0)), [], 0⟩] false [2, 3] [2, 3])
  (.seq (.seq (.reg [] [⟨some 5, none, .fa 0 (.t 2), [], 0⟩,
    ⟨some 6, none, .ld false 1 .cp (.k 5), [], 0⟩,
    ⟨some 7, none, .fa 0 (.t 3), [], 0⟩,
    ⟨some 8, none, .ld false 1 .cp (.k 7), [], 0⟩,
    ⟨some 9, none, .bin .neq (.k 6) (.k 8), [], 0⟩,
    ⟨some 10, none, .mv (.k 9), [], 0⟩,
    ⟨some 11, some (10, false), .fa 2 (.t 2), [], 0⟩,
    ⟨some 12, some (10, false), .ld false 1 .cp (.k 11), [], 0⟩,
    ⟨some 13, some (10, false), .fa 2 (.t 3), [], 0⟩,
    ⟨some 14, some (10, false), .ld false 1 .cp (.k 13), [], 0⟩,
    ⟨some 15, some (10, false), .bin .neq (.k 12) (.k 14), [], 0⟩,
    ⟨some 16, none, .pick (.k 10) (.c (.b true)) (.k 15), [], 0⟩] false [2, 3, 16] [2, 3])
  (.cond 16 (.seq (.reg [] [⟨some 4, none, .mv (.c (.i .i64 (-1))), [], 0⟩] false [4] [])
  .ret)
  .skip))
  (.seq (.reg [] [⟨some 17, none, .fa 1 (.k 2), [], 0⟩,
    ⟨some 18, none, .ld false 1 .tk (.k 17), [], 2⟩,
    ⟨some 19, none, .fa 1 (.k 3), [], 0⟩,
    ⟨some 20, none, .ld false 1 .tk (.k 19), [], 2⟩,
    ⟨some 21, none, .call n_c_law04_Are [.k 18, .k 20], [], 0⟩,
    ⟨some 4, none, .mv (.k 21), [], 0⟩] false [4] [])
  .ret)))⟩

def F_image_Image_Value : F := ⟨1, [.inr (2, true, 3)],
  (.seq (.reg [.zz 0] [⟨some 1, none, .bx (.k 0), [], 0⟩,
    ⟨some 2, none, .al ([.i .i64 0, .l .o 2 [], .i .i64 0]), [], 0⟩] false [1, 2] [1, 2])
  (.seq (.reg [] [⟨some 8, none, .fa 0 (.t 1), [], 0⟩,
    ⟨some 9, none, .ld false 1 .cp (.k 8), [], 0⟩,
    ⟨some 10, none, .bd ([.i .i64 0, .l .o 2 [], .i .i64 0]) [(0, 1, .k 9)], [], 0⟩,
    ⟨some 3, none, .al ([.i .i64 0, .l .o 2 [], .i .i64 0]), [], 0⟩,
    ⟨none, none, .st 3 (.t 3) (.k 10), [], 0⟩] false [1, 2, 3] [1, 2, 3])
  (.seq (.seq (.reg [] [⟨some 11, none, .fa 3 (.t 1), [], 0⟩,
    ⟨some 12, none, .ld false 1 .cp (.k 11), [], 0⟩,
    ⟨some 13, none, .len false (.t 12), [], 0⟩,
    ⟨some 14, none, .mv (.c (.i .i64 0)), [], 0⟩] false [1, 2, 3, 12, 13, 14] [1, 2, 3])
  (.blk 0 (.loop (.seq (.reg [] [⟨some 15, none, .bin .lss (.t 14) (.t 13), [], 0⟩] false [1, 2, 3, 12, 13, 14, 15] [1, 2, 3])
  (.seq (.cond 15 .skip
  (.exit 0))
  (.seq (.blk 1 (.seq (.reg [] [⟨some 16, none, .ia 1 none (.t 12) (.t 14), [], 0⟩,
    ⟨some 17, none, .ld false 1 .cp (.k 16), [], 0⟩,
    ⟨some 5, none, .mv (.k 17), [], 0⟩] false [1, 2, 3, 5, 12, 13, 14] [1, 2, 3])
  (.reg [] [⟨some 18, none, .fa 1 (.t 3), [], 0⟩,
    ⟨some 19, none, .ld false 1 .tk (.k 18), [], 0⟩,
    ⟨some 20, none, .mv (.k 5), [], 0⟩,
    ⟨some 21, none, .app 2 16 (.k 19) (.k 20), [], 1⟩,
    ⟨some 22, none, .fa 1 (.t 3), [], 0⟩,
    ⟨none, none, .st 1 (.k 22) (.k 21), [], 0⟩] false [1, 2, 3, 12, 13, 14] [1, 2, 3])))
  (.reg [] [⟨some 23, none, .bin .add (.k 14) (.c (.i .i64 1)), [], 0⟩,
    ⟨some 14, none, .mv (.k 23), [], 0⟩] false [1, 2, 3, 12, 13, 14] [1, 2, 3])))))))
  (.seq (.seq (.reg [] [⟨some 24, none, .fa 0 (.t 1), [], 0⟩,
    ⟨some 25, none, .ld false 1 .cp (.k 24), [], 0⟩,
    ⟨some 26, none, .bin .eql (.k 25) (.c (.i .i64 1)), [], 0⟩] false [1, 2, 3, 26] [1, 2, 3])
  (.cond 26 (.reg [] [⟨some 27, none, .fa 1 (.t 3), [], 0⟩,
    ⟨some 28, none, .ld false 1 .cp (.k 27), [], 2⟩,
    ⟨some 29, none, .call n_pile_Sorted [.k 28], [], 0⟩,
    ⟨some 30, none, .fa 1 (.t 3), [], 0⟩,
    ⟨none, none, .st 1 (.k 30) (.k 29), [], 0⟩] false [1, 2, 3] [1, 2, 3])
  .skip))
  (.seq (.seq (.reg [] [⟨some 31, none, .fa 4 (.k 1), [], 0⟩,
    ⟨some 32, none, .ld false 1 .tk (.k 31), [], 0⟩,
    ⟨some 33, none, .len false (.t 32), [], 0⟩,
    ⟨some 34, none, .mv (.c (.i .i64 0)), [], 0⟩] false [2, 3, 32, 33, 34] [2, 3])
  (.blk 2 (.loop (.seq (.reg [] [⟨some 35, none, .bin .lss (.t 34) (.t 33), [], 0⟩] false [2, 3, 32, 33, 34, 35] [2, 3])
  (.seq (.cond 35 .skip
  (.exit 2))
  (.seq (.blk 3 (.seq (.reg [] [⟨some 36, none, .ia 1 none (.t 32) (.t 34), [], 0⟩,
    ⟨some 37, none, .ld false 1 .cp (.k 36), [], 0⟩,
    ⟨some 7, none, .mv (.k 37), [], 0⟩] false [2, 3, 7, 32, 33, 34] [2, 3])
  (.reg [] [⟨some 38, none, .fa 2 (.t 3), [], 0⟩,
    ⟨some 39, none, .ld false 1 .cp (.k 38), [], 0⟩,
    ⟨some 40, none, .mv (.k 7), [], 0⟩,
    ⟨some 41, none, .bin .add (.k 39) (.k 40), [], 0⟩,
    ⟨some 42, none, .fa 2 (.t 3), [], 0⟩,
    ⟨none, none, .st 1 (.k 42) (.k 41), [], 0⟩] false [2, 3, 32, 33, 34] [2, 3])))
  (.reg [] [⟨some 43, none, .bin .add (.k 34) (.c (.i .i64 1)), [], 0⟩,
    ⟨some 34, none, .mv (.k 43), [], 0⟩] false [2, 3, 32, 33, 34] [2, 3])))))))
  (.seq (.reg [] [⟨some 44, none, .ld true 3 .tk (.k 3), [], 0⟩,
    ⟨none, none, .st 3 (.t 2) (.k 44), [], 0⟩] false [2] [2])
  .ret))))))⟩

def F_c_ref17_Value : F := ⟨1, [.inr (2, true, 3)],
  (.seq (.reg [.zz 0] [⟨some 1, none, .bx (.k 0), [], 0⟩,
    ⟨some 2, none, .al ([.i .i64 0, .l .o 2 [], .i .i64 0]), [], 0⟩] false [1, 2] [1, 2])
  (.seq (.reg [] [⟨some 10, none, .fa 0 (.t 1), [], 0⟩,
    ⟨some 11, none, .ld false 1 .cp (.k 10), [], 0⟩,
    ⟨some 12, none, .bd ([.i .i64 0, .l .o 2 [], .i .i64 0]) [(0, 1, .k 11)], [], 0⟩,
    ⟨some 3, none, .al ([.i .i64 0, .l .o 2 [], .i .i64 0]), [], 0⟩,
    ⟨none, none, .st 3 (.t 3) (.k 12), [], 0⟩] false [1, 2, 3] [1, 2, 3])
  (.seq (.seq (.reg [] [⟨some 13, none, .fa 3 (.t 1), [], 0⟩,
    ⟨some 14, none, .ld false 1 .cp (.k 13), [], 0⟩,
    ⟨some 15, none, .len false (.t 14), [], 0⟩,
    ⟨some 16, none, .mv (.c (.i .i64 0)), [], 0⟩] false [1, 2, 3, 14, 15, 16] [1, 2, 3])
  (.blk 0 (.loop (.seq (.reg [] [⟨some 17, none, .bin .lss (.t 16) (.t 15), [], 0⟩] false [1, 2, 3, 14, 15, 16, 17] [1, 2, 3])
  (.seq (.cond 17 .skip
  (.exit 0))
  (.seq (.blk 1 (.seq (.reg [] [⟨some 18, none, .ia 1 none (.t 14) (.t 16), [], 0⟩,
    ⟨some 19, none, .ld false 1 .cp (.k 18), [], 0⟩,
    ⟨some 5, none, .mv (.k 19), [], 0⟩] false [1, 2, 3, 5, 14, 15, 16] [1, 2, 3])
  (.seq (.reg [] [⟨some 20, none, .mv (.k 5), [], 0⟩,
    ⟨some 21, none, .len false (.t 20), [], 0⟩,
    ⟨some 22, none, .mv (.c (.i .i64 0)), [], 0⟩] false [1, 2, 3, 14, 15, 16, 20, 21, 22] [1, 2, 3])
  (.blk 2 (.loop (.seq (.reg [] [⟨some 23, none, .bin .lss (.t 22) (.t 21), [], 0⟩] false [1, 2, 3, 14, 15, 16, 20, 21, 22, 23] [1, 2, 3])
  (.seq (.cond 23 .skip
  (.exit 2))
  (.seq (.blk 3 (.seq (.reg [] [⟨some 24, none, .ia 2 none (.t 20) (.t 22), [], 0⟩,
    ⟨some 25, none, .ld true 2 .cp (.k 24), [], 0⟩,
    ⟨some 7, none, .al ([.i .u64 0, .i .i64 0]), [], 0⟩,
    ⟨none, none, .st 2 (.t 7) (.k 25), [], 0⟩] false [1, 2, 3, 7, 14, 15, 16, 20, 21, 22] [1, 2, 3, 7])
  (.seq (.reg [] [⟨some 26, none, .fa 0 (.t 1), [], 0⟩,
    ⟨some 27, none, .ld false 1 .cp (.k 26), [], 0⟩,
    ⟨some 28, none, .bin .eql (.k 27) (.c (.i .i64 1)), [], 0⟩] false [1, 2, 3, 7, 14, 15, 16, 20, 21, 22, 28] [1, 2, 3, 7])
  (.cond 28 (.reg [] [⟨some 29, none, .fa 1 (.t 3), [], 0⟩,
    ⟨some 30, none, .ld false 1 .cp (.k 29), [], 2⟩,
    ⟨some 31, none, .ld true 2 .cp (.k 7), [], 0⟩,
    ⟨some 32, none, .call n_c_ref04_With [.k 30, .k 31], [], 0⟩,
    ⟨some 33, none, .fa 1 (.t 3), [], 0⟩,
    ⟨none, none, .st 1 (.k 33) (.k 32), [], 0⟩] false [1, 2, 3, 14, 15, 16, 20, 21, 22] [1, 2, 3])
  (.reg [] [⟨some 34, none, .fa 1 (.t 3), [], 0⟩,
    ⟨some 35, none, .ld false 1 .tk (.k 34), [], 0⟩,
    ⟨some 36, none, .ld true 2 .cp (.k 7), [], 0⟩,
    ⟨some 37, none, .bs 2 1 (.a ([.i .u64 0, .i .i64 0])) [(0, .k 36)], [], 0⟩,
    ⟨some 38, none, .app 2 16 (.k 35) (.k 37), [], 1⟩,
    ⟨some 39, none, .fa 1 (.t 3), [], 0⟩,
    ⟨none, none, .st 1 (.k 39) (.k 38), [], 0⟩] false [1, 2, 3, 14, 15, 16, 20, 21, 22] [1, 2, 3])))))
  (.reg [] [⟨some 40, none, .bin .add (.k 22) (.c (.i .i64 1)), [], 0⟩,
    ⟨some 22, none, .mv (.k 40), [], 0⟩] false [1, 2, 3, 14, 15, 16, 20, 21, 22] [1, 2, 3])))))))))
  (.reg [] [⟨some 41, none, .bin .add (.k 16) (.c (.i .i64 1)), [], 0⟩,
    ⟨some 16, none, .mv (.k 41), [], 0⟩] false [1, 2, 3, 14, 15, 16] [1, 2, 3])))))))
  (.seq (.seq (.reg [] [⟨some 42, none, .fa 4 (.k 1), [], 0⟩,
    ⟨some 43, none, .ld false 1 .tk (.k 42), [], 0⟩,
    ⟨some 44, none, .len false (.t 43), [], 0⟩,
    ⟨some 45, none, .mv (.c (.i .i64 0)), [], 0⟩] false [2, 3, 43, 44, 45] [2, 3])
  (.blk 4 (.loop (.seq (.reg [] [⟨some 46, none, .bin .lss (.t 45) (.t 44), [], 0⟩] false [2, 3, 43, 44, 45, 46] [2, 3])
  (.seq (.cond 46 .skip
  (.exit 4))
  (.seq (.blk 5 (.seq (.reg [] [⟨some 47, none, .ia 1 none (.t 43) (.t 45), [], 0⟩,
    ⟨some 48, none, .ld false 1 .cp (.k 47), [], 0⟩,
    ⟨some 9, none, .mv (.k 48), [], 0⟩] false [2, 3, 9, 43, 44, 45] [2, 3])
  (.reg [] [⟨some 49, none, .fa 2 (.t 3), [], 0⟩,
    ⟨some 50, none, .ld false 1 .cp (.k 49), [], 0⟩,
    ⟨some 51, none, .mv (.k 9), [], 0⟩,
    ⟨some 52, none, .bin .add (.k 50) (.k 51), [], 0⟩,
    ⟨some 53, none, .fa 2 (.t 3), [], 0⟩,
    ⟨none, none, .st 1 (.k 53) (.k 52), [], 0⟩] false [2, 3, 43, 44, 45] [2, 3])))
  (.reg [] [⟨some 54, none, .bin .add (.k 45) (.c (.i .i64 1)), [], 0⟩,
    ⟨some 45, none, .mv (.k 54), [], 0⟩] false [2, 3, 43, 44, 45] [2, 3])))))))
  (.seq (.reg [] [⟨some 55, none, .ld true 3 .tk (.k 3), [], 0⟩,
    ⟨none, none, .st 3 (.t 2) (.k 55), [], 0⟩] false [2] [2])
  .ret)))))⟩

def F_image_Image_Same : F := ⟨2, [.inl 4],
  (.seq (.reg [.zz 0, .zz 1] [⟨some 2, none, .bx (.k 0), [], 0⟩,
    ⟨some 3, none, .bx (.k 1), [], 0⟩,
    ⟨some 4, none, .mv (.c (.b false)), [], 0⟩] false [2, 3] [2, 3])
  (.seq (.seq (.reg [] [⟨some 5, none, .fa 0 (.t 2), [], 0⟩,
    ⟨some 6, none, .ld false 1 .cp (.k 5), [], 0⟩,
    ⟨some 7, none, .fa 0 (.t 3), [], 0⟩,
    ⟨some 8, none, .ld false 1 .cp (.k 7), [], 0⟩,
    ⟨some 9, none, .bin .neq (.k 6) (.k 8), [], 0⟩,
    ⟨some 10, none, .mv (.k 9), [], 0⟩,
    ⟨some 11, some (10, false), .fa 1 (.t 2), [], 0⟩,
    ⟨some 12, some (10, false), .ld false 1 .cp (.k 11), [], 0⟩,
    ⟨some 13, some (10, false), .fa 1 (.t 3), [], 0⟩,
    ⟨some 14, some (10, false), .ld false 1 .cp (.k 13), [], 0⟩,
    ⟨some 15, some (10, false), .bin .neq (.k 12) (.k 14), [], 0⟩,
    ⟨some 16, none, .pick (.k 10) (.c (.b true)) (.k 15), [], 0⟩,
    ⟨some 17, none, .mv (.k 16), [], 0⟩,
    ⟨some 18, some (17, false), .fa 2 (.t 2), [], 0⟩,
    ⟨some 19, some (17, false), .ld false 1 .cp (.k 18), [], 0⟩,
    ⟨some 20, some (17, false), .fa 2 (.t 3), [], 0⟩,
    ⟨some 21, some (17, false), .ld false 1 .cp (.k 20), [], 0⟩,
    ⟨some 22, some (17, false), .bin .neq (.k 19) (.k 21), [], 0⟩,
    ⟨some 23, none, .pick (.k 17) (.c (.b true)) (.k 22), [], 0⟩,
    ⟨some 24, none, .mv (.k 23), [], 0⟩,
    ⟨some 25, some (24, false), .fa 4 (.t 2), [], 0⟩,
    ⟨some 26, some (24, false), .ld false 1 .cp (.k 25), [], 2⟩,
    ⟨some 27, some (24, false), .fa 4 (.t 3), [], 0⟩,
    ⟨some 28, some (24, false), .ld false 1 .cp (.k 27), [], 2⟩,
    ⟨some 29, some (24, false), .call n_slices_Equal_int64_int64 [.k 26, .k 28], [], 0⟩,
    ⟨some 30, some (24, false), .un .not (.k 29), [], 0⟩,
    ⟨some 31, none, .pick (.k 24) (.c (.b true)) (.k 30), [], 0⟩] false [2, 3, 31] [2, 3])
  (.cond 31 (.seq (.reg [] [⟨some 4, none, .mv (.c (.b false)), [], 0⟩] false [4] [])
  .ret)
  .skip))
  (.seq (.reg [] [⟨some 32, none, .fa 3 (.k 2), [], 0⟩,
    ⟨some 33, none, .ld false 1 .tk (.k 32), [], 2⟩,
    ⟨some 34, none, .fa 3 (.k 3), [], 0⟩,
    ⟨some 35, none, .ld false 1 .tk (.k 34), [], 2⟩,
    ⟨some 36, none, .call n_slices_EqualFunc_pile_Item_pile_Item_pile_Item_pile_Item [.k 33, .k 35, .c (.fn n_image_Image_Same_1 [])], [], 0⟩,
    ⟨some 4, none, .mv (.k 36), [], 0⟩] false [4] [])
  .ret)))⟩

def F_c_ref17_Same : F := ⟨2, [.inl 4],
  (.seq (.reg [.zz 0, .zz 1] [⟨some 2, none, .bx (.k 0), [], 0⟩,
    ⟨some 3, none, .bx (.k 1), [], 0⟩,
    ⟨some 4, none, .mv (.c (.i .i64 0)), [], 0⟩] false [2, 3] [2, 3])
  (.seq (.seq (.reg [] [⟨some 8, none, .fa 0 (.t 2), [], 0⟩,
    ⟨some 9, none, .ld false 1 .cp (.k 8), [], 0⟩,
    ⟨some 10, none, .fa 0 (.t 3), [], 0⟩,
    ⟨some 11, none, .ld false 1 .cp (.k 10), [], 0⟩,
    ⟨some 12, none, .bin .neq (.k 9) (.k 11), [], 0⟩,
    ⟨some 13, none, .mv (.k 12), [], 0⟩,
    ⟨some 14, some (13, false), .fa 1 (.t 2), [], 0⟩,
    ⟨some 15, some (13, false), .ld false 1 .cp (.k 14), [], 0⟩,
    ⟨some 16, some (13, false), .fa 1 (.t 3), [], 0⟩,
    ⟨some 17, some (13, false), .ld false 1 .cp (.k 16), [], 0⟩,
    ⟨some 18, some (13, false), .bin .neq (.k 15) (.k 17), [], 0⟩,
    ⟨some 19, none, .pick (.k 13) (.c (.b true)) (.k 18), [], 0⟩,
    ⟨some 20, none, .mv (.k 19), [], 0⟩,
    ⟨some 21, some (20, false), .fa 2 (.t 2), [], 0⟩,
    ⟨some 22, some (20, false), .ld false 1 .cp (.k 21), [], 0⟩,
    ⟨some 23, some (20, false), .fa 2 (.t 3), [], 0⟩,
    ⟨some 24, some (20, false), .ld false 1 .cp (.k 23), [], 0⟩,
    ⟨some 25, some (20, false), .bin .neq (.k 22) (.k 24), [], 0⟩,
    ⟨some 26, none, .pick (.k 20) (.c (.b true)) (.k 25), [], 0⟩,
    ⟨some 27, none, .mv (.k 26), [], 0⟩,
    ⟨some 28, some (27, false), .fa 3 (.t 2), [], 0⟩,
    ⟨some 29, some (27, false), .ld false 1 .cp (.k 28), [], 0⟩,
    ⟨some 30, some (27, false), .len false (.k 29), [], 0⟩,
    ⟨some 31, some (27, false), .fa 3 (.t 3), [], 0⟩,
    ⟨some 32, some (27, false), .ld false 1 .cp (.k 31), [], 0⟩,
    ⟨some 33, some (27, false), .len false (.k 32), [], 0⟩,
    ⟨some 34, some (27, false), .bin .neq (.k 30) (.k 33), [], 0⟩,
    ⟨some 35, none, .pick (.k 27) (.c (.b true)) (.k 34), [], 0⟩,
    ⟨some 36, none, .mv (.k 35), [], 0⟩,
    ⟨some 37, some (36, false), .fa 4 (.t 2), [], 0⟩,
    ⟨some 38, some (36, false), .ld false 1 .cp (.k 37), [], 0⟩,
    ⟨some 39, some (36, false), .len false (.k 38), [], 0⟩,
    ⟨some 40, some (36, false), .fa 4 (.t 3), [], 0⟩,
    ⟨some 41, some (36, false), .ld false 1 .cp (.k 40), [], 0⟩,
    ⟨some 42, some (36, false), .len false (.k 41), [], 0⟩,
    ⟨some 43, some (36, false), .bin .neq (.k 39) (.k 42), [], 0⟩,
    ⟨some 44, none, .pick (.k 36) (.c (.b true)) (.k 43), [], 0⟩] false [2, 3, 44] [2, 3])
  (.cond 44 (.seq (.reg [] [⟨some 4, none, .mv (.c (.i .i64 (-1))), [], 0⟩] false [4] [])
  .ret)
  .skip))
  (.seq (.seq (.reg [] [⟨some 45, none, .fa 4 (.t 2), [], 0⟩,
    ⟨some 46, none, .ld false 1 .cp (.k 45), [], 0⟩,
    ⟨some 47, none, .len false (.k 46), [], 0⟩,
    ⟨some 48, none, .mv (.c (.i .i64 0)), [], 0⟩] false [2, 3, 47, 48] [2, 3])
  (.blk 0 (.loop (.seq (.reg [] [⟨some 49, none, .bin .lss (.t 48) (.t 47), [], 0⟩] false [2, 3, 47, 48, 49] [2, 3])
  (.seq (.cond 49 .skip
  (.exit 0))
  (.seq (.blk 1 (.seq (.reg [] [⟨some 50, none, .mv (.t 48), [], 0⟩,
    ⟨some 5, none, .mv (.k 50), [], 0⟩] false [2, 3, 5, 47, 48] [2, 3])
  (.seq (.reg [] [⟨some 51, none, .fa 4 (.t 2), [], 0⟩,
    ⟨some 52, none, .ld false 1 .cp (.k 51), [], 0⟩,
    ⟨some 53, none, .mv (.t 5), [0, 1], 0⟩,
    ⟨some 54, none, .ia 1 none (.k 52) (.k 53), [], 0⟩,
    ⟨some 55, none, .ld false 1 .cp (.k 54), [], 0⟩,
    ⟨some 56, none, .fa 4 (.t 3), [0, 1, 2, 3, 4], 0⟩,
    ⟨some 57, none, .ld false 1 .cp (.k 56), [0, 1, 2, 3, 4], 0⟩,
    ⟨some 58, none, .mv (.t 5), [0, 1, 2, 3, 4, 5, 6], 0⟩,
    ⟨some 59, none, .ia 1 none (.k 57) (.k 58), [0, 1, 2, 3, 4], 0⟩,
    ⟨some 60, none, .ld false 1 .cp (.k 59), [0, 1, 2, 3, 4], 0⟩,
    ⟨some 61, none, .bin .neq (.k 55) (.k 60), [], 0⟩] true [2, 3, 47, 48, 61] [2, 3])
  (.cond 61 (.seq (.reg [] [⟨some 4, none, .mv (.c (.i .i64 (-1))), [], 0⟩] false [4] [])
  .ret)
  .skip))))
  (.reg [] [⟨some 62, none, .bin .add (.k 48) (.c (.i .i64 1)), [], 0⟩,
    ⟨some 48, none, .mv (.k 62), [], 0⟩] false [2, 3, 47, 48] [2, 3])))))))
  (.seq (.seq (.reg [] [⟨some 63, none, .fa 3 (.t 2), [], 0⟩,
    ⟨some 64, none, .ld false 1 .cp (.k 63), [], 0⟩,
    ⟨some 65, none, .len false (.k 64), [], 0⟩,
    ⟨some 66, none, .mv (.c (.i .i64 0)), [], 0⟩] false [2, 3, 65, 66] [2, 3])
  (.blk 2 (.loop (.seq (.reg [] [⟨some 67, none, .bin .lss (.t 66) (.t 65), [], 0⟩] false [2, 3, 65, 66, 67] [2, 3])
  (.seq (.cond 67 .skip
  (.exit 2))
  (.seq (.blk 3 (.seq (.reg [] [⟨some 68, none, .mv (.t 66), [], 0⟩,
    ⟨some 6, none, .mv (.k 68), [], 0⟩] false [2, 3, 6, 65, 66] [2, 3])
  (.seq (.seq (.reg [] [⟨some 69, none, .fa 3 (.t 2), [], 0⟩,
    ⟨some 70, none, .ld false 1 .cp (.k 69), [], 0⟩,
    ⟨some 71, none, .mv (.t 6), [0, 1], 0⟩,
    ⟨some 72, none, .ia 1 none (.k 70) (.k 71), [], 0⟩,
    ⟨some 73, none, .ld false 1 .cp (.k 72), [], 0⟩,
    ⟨some 74, none, .len false (.k 73), [], 0⟩,
    ⟨some 75, none, .fa 3 (.t 3), [0, 1, 2, 3, 4, 5], 0⟩,
    ⟨some 76, none, .ld false 1 .cp (.k 75), [0, 1, 2, 3, 4, 5], 0⟩,
    ⟨some 77, none, .mv (.t 6), [0, 1, 2, 3, 4, 5, 6, 7], 0⟩,
    ⟨some 78, none, .ia 1 none (.k 76) (.k 77), [0, 1, 2, 3, 4, 5], 0⟩,
    ⟨some 79, none, .ld false 1 .cp (.k 78), [0, 1, 2, 3, 4, 5], 0⟩,
    ⟨some 80, none, .len false (.k 79), [0, 1, 2, 3, 4, 5], 0⟩,
    ⟨some 81, none, .bin .neq (.k 74) (.k 80), [], 0⟩] true [2, 3, 6, 65, 66, 81] [2, 3])
  (.cond 81 (.seq (.reg [] [⟨some 4, none, .mv (.c (.i .i64 (-1))), [], 0⟩] false [4] [])
  .ret)
  .skip))
  (.seq (.reg [] [⟨some 82, none, .fa 3 (.t 2), [], 0⟩,
    ⟨some 83, none, .ld false 1 .cp (.k 82), [], 0⟩,
    ⟨some 84, none, .mv (.t 6), [], 0⟩,
    ⟨some 85, none, .ia 1 none (.k 83) (.k 84), [], 0⟩,
    ⟨some 86, none, .ld false 1 .cp (.k 85), [], 0⟩,
    ⟨some 87, none, .len false (.k 86), [], 0⟩,
    ⟨some 88, none, .mv (.c (.i .i64 0)), [], 0⟩] false [2, 3, 6, 65, 66, 87, 88] [2, 3])
  (.blk 4 (.loop (.seq (.reg [] [⟨some 89, none, .bin .lss (.t 88) (.t 87), [], 0⟩] false [2, 3, 6, 65, 66, 87, 88, 89] [2, 3])
  (.seq (.cond 89 .skip
  (.exit 4))
  (.seq (.blk 5 (.seq (.reg [] [⟨some 90, none, .mv (.t 88), [], 0⟩,
    ⟨some 7, none, .mv (.k 90), [], 0⟩] false [2, 3, 6, 7, 65, 66, 87, 88] [2, 3])
  (.seq (.reg [] [⟨some 91, none, .fa 3 (.t 2), [], 0⟩,
    ⟨some 92, none, .ld false 1 .cp (.k 91), [], 0⟩,
    ⟨some 93, none, .mv (.t 6), [0, 1], 0⟩,
    ⟨some 94, none, .ia 1 none (.k 92) (.k 93), [], 0⟩,
    ⟨some 95, none, .ld false 1 .cp (.k 94), [], 0⟩,
    ⟨some 96, none, .mv (.t 7), [0, 1, 2, 3, 4], 0⟩,
    ⟨some 97, none, .ia 2 none (.k 95) (.k 96), [], 0⟩,
    ⟨some 98, none, .ld true 2 .cp (.k 97), [], 0⟩,
    ⟨some 99, none, .fa 3 (.t 3), [0, 1, 2, 3, 4, 5, 6, 7], 0⟩,
    ⟨some 100, none, .ld false 1 .cp (.k 99), [0, 1, 2, 3, 4, 5, 6, 7], 0⟩,
    ⟨some 101, none, .mv (.t 6), [0, 1, 2, 3, 4, 5, 6, 7, 8, 9], 0⟩,
    ⟨some 102, none, .ia 1 none (.k 100) (.k 101), [0, 1, 2, 3, 4, 5, 6, 7], 0⟩,
    ⟨some 103, none, .ld false 1 .cp (.k 102), [0, 1, 2, 3, 4, 5, 6, 7], 0⟩,
    ⟨some 104, none, .mv (.t 7), [0, 1, 2, 3, 4, 5, 6, 7, 8, 9, 10, 11, 12], 0⟩,
    ⟨some 105, none, .ia 2 none (.k 103) (.k 104), [0, 1, 2, 3, 4, 5, 6, 7], 0⟩,
    ⟨some 106, none, .ld true 2 .cp (.k 105), [0, 1, 2, 3, 4, 5, 6, 7], 0⟩,
    ⟨some 107, none, .call n_c_ref04_Cmp [.k 98, .k 106], [], 0⟩,
    ⟨some 108, none, .bin .neq (.k 107) (.c (.i .i64 0)), [], 0⟩] true [2, 3, 6, 65, 66, 87, 88, 108] [2, 3])
  (.cond 108 (.seq (.reg [] [⟨some 4, none, .mv (.c (.i .i64 (-1))), [], 0⟩] false [4] [])
  .ret)
  .skip))))
  (.reg [] [⟨some 109, none, .bin .add (.k 88) (.c (.i .i64 1)), [], 0⟩,
    ⟨some 88, none, .mv (.k 109), [], 0⟩] false [2, 3, 6, 65, 66, 87, 88] [2, 3]))))))))))
  (.reg [] [⟨some 110, none, .bin .add (.k 66) (.c (.i .i64 1)), [], 0⟩,
    ⟨some 66, none, .mv (.k 110), [], 0⟩] false [2, 3, 65, 66] [2, 3])))))))
  (.seq (.reg [] [⟨some 4, none, .mv (.c (.i .i64 0)), [], 0⟩] false [4] [])
  .ret)))))⟩

def F_c_ref19_Meta : F := ⟨1, [.inl 2],
  (.seq (.reg [.zz 0] [⟨some 1, none, .bx (.k 0), [], 0⟩,
    ⟨some 2, none, .mv (.c (.s ⟨#[]⟩)), [], 0⟩] false [1] [1])
  (.seq (.reg [] [⟨some 3, none, .fa 1 (.t 1), [], 0⟩,
    ⟨some 4, none, .ld false 1 .cp (.k 3), [], 0⟩,
    ⟨some 5, none, .cv (.int .u64) (.k 4), [], 0⟩,
    ⟨some 6, none, .call n_c_ref01_Num2 [.k 5], [], 0⟩,
    ⟨some 7, none, .fa 2 (.t 1), [0, 1, 2, 3], 0⟩,
    ⟨some 8, none, .ld false 1 .cp (.k 7), [0, 1, 2, 3], 0⟩,
    ⟨some 9, none, .call n_c_ref01_Num2 [.k 8], [], 0⟩,
    ⟨some 10, none, .bin .add (.k 6) (.k 9), [], 0⟩,
    ⟨some 2, none, .mv (.k 10), [], 0⟩] true [2] [])
  .ret))⟩

def F_c_ref19_Data : F := ⟨1, [.inl 2],
  (.seq (.reg [.zz 0] [⟨some 1, none, .bx (.k 0), [], 0⟩,
    ⟨some 2, none, .mv (.c (.s ⟨#[]⟩)), [], 0⟩] false [1] [1])
  (.seq (.reg [] [⟨some 3, none, .mv (.c (.s ⟨#[]⟩)), [], 0⟩] false [1, 3] [1])
  (.seq (.seq (.reg [] [⟨some 8, none, .fa 3 (.t 1), [], 0⟩,
    ⟨some 9, none, .ld false 1 .cp (.k 8), [], 0⟩,
    ⟨some 10, none, .len false (.t 9), [], 0⟩,
    ⟨some 11, none, .mv (.c (.i .i64 0)), [], 0⟩] false [1, 3, 9, 10, 11] [1])
  (.blk 0 (.loop (.seq (.reg [] [⟨some 12, none, .bin .lss (.t 11) (.t 10), [], 0⟩] false [1, 3, 9, 10, 11, 12] [1])
  (.seq (.cond 12 .skip
  (.exit 0))
  (.seq (.blk 1 (.seq (.reg [] [⟨some 13, none, .ia 1 none (.t 9) (.t 11), [], 0⟩,
    ⟨some 14, none, .ld false 1 .cp (.k 13), [], 0⟩,
    ⟨some 5, none, .mv (.k 14), [], 0⟩] false [1, 3, 5, 9, 10, 11] [1])
  (.reg [] [⟨some 15, none, .mv (.k 3), [], 0⟩,
    ⟨some 16, none, .mv (.k 5), [], 2⟩,
    ⟨some 17, none, .call n_c_ref19_Items [.k 16], [], 0⟩,
    ⟨some 18, none, .bin .add (.k 15) (.k 17), [], 0⟩,
    ⟨some 3, none, .mv (.k 18), [], 0⟩] false [1, 3, 9, 10, 11] [1])))
  (.reg [] [⟨some 19, none, .bin .add (.k 11) (.c (.i .i64 1)), [], 0⟩,
    ⟨some 11, none, .mv (.k 19), [], 0⟩] false [1, 3, 9, 10, 11] [1])))))))
  (.seq (.seq (.reg [] [⟨some 20, none, .fa 4 (.k 1), [], 0⟩,
    ⟨some 21, none, .ld false 1 .tk (.k 20), [], 0⟩,
    ⟨some 22, none, .len false (.t 21), [], 0⟩,
    ⟨some 23, none, .mv (.c (.i .i64 0)), [], 0⟩] false [3, 21, 22, 23] [])
  (.blk 2 (.loop (.seq (.reg [] [⟨some 24, none, .bin .lss (.t 23) (.t 22), [], 0⟩] false [3, 21, 22, 23, 24] [])
  (.seq (.cond 24 .skip
  (.exit 2))
  (.seq (.blk 3 (.seq (.reg [] [⟨some 25, none, .ia 1 none (.t 21) (.t 23), [], 0⟩,
    ⟨some 26, none, .ld false 1 .cp (.k 25), [], 0⟩,
    ⟨some 7, none, .mv (.k 26), [], 0⟩] false [3, 7, 21, 22, 23] [])
  (.reg [] [⟨some 27, none, .mv (.k 3), [], 0⟩,
    ⟨some 28, none, .mv (.k 7), [], 0⟩,
    ⟨some 29, none, .cv (.int .u64) (.k 28), [], 0⟩,
    ⟨some 30, none, .call n_c_ref01_Num2 [.k 29], [], 0⟩,
    ⟨some 31, none, .bin .add (.k 27) (.k 30), [], 0⟩,
    ⟨some 3, none, .mv (.k 31), [], 0⟩] false [3, 21, 22, 23] [])))
  (.reg [] [⟨some 32, none, .bin .add (.k 23) (.c (.i .i64 1)), [], 0⟩,
    ⟨some 23, none, .mv (.k 32), [], 0⟩] false [3, 21, 22, 23] [])))))))
  (.seq (.reg [] [⟨some 33, none, .mv (.k 3), [], 0⟩,
    ⟨some 2, none, .mv (.k 33), [], 0⟩] false [2] [])
  .ret)))))⟩

def F_section_Items : F := ⟨2, [.inl 4],
  (.seq (.reg [.zz 1] [⟨some 4, none, .mv (.c (.l .o 1 [])), [], 0⟩] false [0, 1] [])
  (.seq (.reg [] [⟨some 7, none, .mv (.k 0), [], 0⟩,
    ⟨some 8, none, .mv (.t 1), [], 0⟩,
    ⟨some 9, none, .len false (.k 8), [], 0⟩,
    ⟨some 10, none, .cv (.int .u64) (.k 9), [], 0⟩,
    ⟨some 11, none, .call n_octet_Num [.k 7, .k 10], [], 0⟩,
    ⟨some 0, none, .mv (.k 11), [], 0⟩] false [0, 1] [])
  (.seq (.seq (.reg [] [⟨some 12, none, .mv (.k 1), [], 0⟩,
    ⟨some 13, none, .len false (.t 12), [], 0⟩,
    ⟨some 14, none, .mv (.c (.i .i64 0)), [], 0⟩] false [0, 12, 13, 14] [])
  (.blk 0 (.loop (.seq (.reg [] [⟨some 15, none, .bin .lss (.t 14) (.t 13), [], 0⟩] false [0, 12, 13, 14, 15] [])
  (.seq (.cond 15 .skip
  (.exit 0))
  (.seq (.blk 1 (.seq (.reg [] [⟨some 16, none, .ia 2 none (.t 12) (.t 14), [], 0⟩,
    ⟨some 17, none, .ld true 2 .cp (.k 16), [], 0⟩,
    ⟨some 6, none, .al ([.f .f64 0, .i .i64 0]), [], 0⟩,
    ⟨none, none, .st 2 (.t 6) (.k 17), [], 0⟩] false [0, 6, 12, 13, 14] [6])
  (.reg [] [⟨some 18, none, .mv (.k 0), [], 0⟩,
    ⟨some 19, none, .fa 0 (.t 6), [0], 0⟩,
    ⟨some 20, none, .ld false 1 .cp (.k 19), [0], 0⟩,
    ⟨some 21, none, .call n_real_Key [.k 20], [0], 0⟩,
    ⟨some 22, none, .call n_octet_Long [.k 18, .k 21], [], 0⟩,
    ⟨some 23, none, .fa 1 (.t 6), [0, 1, 2, 3, 4], 0⟩,
    ⟨some 24, none, .ld false 1 .cp (.k 23), [0, 1, 2, 3, 4], 0⟩,
    ⟨some 25, none, .call n_octet_Int [.k 22, .k 24], [], 0⟩,
    ⟨some 0, none, .mv (.k 25), [], 0⟩] true [0, 12, 13, 14] [])))
  (.reg [] [⟨some 26, none, .bin .add (.k 14) (.c (.i .i64 1)), [], 0⟩,
    ⟨some 14, none, .mv (.k 26), [], 0⟩] false [0, 12, 13, 14] [])))))))
  (.seq (.reg [] [⟨some 27, none, .mv (.k 0), [], 0⟩,
    ⟨some 4, none, .mv (.k 27), [], 0⟩] false [4] [])
  .ret))))⟩

def F_c_ref19_Items : F := ⟨1, [.inl 2],
  (.seq (.reg [.zz 0] [⟨some 2, none, .mv (.c (.s ⟨#[]⟩)), [], 0⟩] false [0] [])
  (.seq (.reg [] [⟨some 6, none, .mv (.t 0), [], 0⟩,
    ⟨some 7, none, .len false (.k 6), [], 0⟩,
    ⟨some 8, none, .cv (.int .u64) (.k 7), [], 0⟩,
    ⟨some 9, none, .call n_c_ref01_Num2 [.k 8], [], 0⟩,
    ⟨some 3, none, .mv (.k 9), [], 0⟩] false [0, 3] [])
  (.seq (.seq (.reg [] [⟨some 10, none, .mv (.k 0), [], 0⟩,
    ⟨some 11, none, .len false (.t 10), [], 0⟩,
    ⟨some 12, none, .mv (.c (.i .i64 0)), [], 0⟩] false [3, 10, 11, 12] [])
  (.blk 0 (.loop (.seq (.reg [] [⟨some 13, none, .bin .lss (.t 12) (.t 11), [], 0⟩] false [3, 10, 11, 12, 13] [])
  (.seq (.cond 13 .skip
  (.exit 0))
  (.seq (.blk 1 (.seq (.reg [] [⟨some 14, none, .ia 2 none (.t 10) (.t 12), [], 0⟩,
    ⟨some 15, none, .ld true 2 .cp (.k 14), [], 0⟩,
    ⟨some 5, none, .al ([.i .u64 0, .i .i64 0]), [], 0⟩,
    ⟨none, none, .st 2 (.t 5) (.k 15), [], 0⟩] false [3, 5, 10, 11, 12] [5])
  (.reg [] [⟨some 16, none, .mv (.k 3), [], 0⟩,
    ⟨some 17, none, .fa 0 (.t 5), [0], 0⟩,
    ⟨some 18, none, .ld false 1 .cp (.k 17), [0], 0⟩,
    ⟨some 19, none, .call n_c_ref03_Key [.k 18], [0], 0⟩,
    ⟨some 20, none, .call n_c_ref01_Fixed [.k 19, .c (.i .i64 8)], [0], 0⟩,
    ⟨some 21, none, .fa 1 (.t 5), [0, 1, 2, 3, 4], 0⟩,
    ⟨some 22, none, .ld false 1 .cp (.k 21), [0, 1, 2, 3, 4], 0⟩,
    ⟨some 23, none, .call n_c_ref01_Int [.k 22], [0], 0⟩,
    ⟨some 24, none, .bin .add (.k 20) (.k 23), [0], 0⟩,
    ⟨some 25, none, .bin .add (.k 16) (.k 24), [], 0⟩,
    ⟨some 3, none, .mv (.k 25), [], 0⟩] true [3, 10, 11, 12] [])))
  (.reg [] [⟨some 26, none, .bin .add (.k 12) (.c (.i .i64 1)), [], 0⟩,
    ⟨some 12, none, .mv (.k 26), [], 0⟩] false [3, 10, 11, 12] [])))))))
  (.seq (.reg [] [⟨some 27, none, .mv (.k 3), [], 0⟩,
    ⟨some 2, none, .mv (.k 27), [], 0⟩] false [2] [])
  .ret))))⟩

def F_c_law21_awake : F := ⟨0, [.inl 0],
  (.seq (.reg [] [⟨some 0, none, .mv (.c (.b false)), [], 0⟩] false [] [])
  (.seq (.reg [] [⟨some 6, none, .bs 1 1 (.i .i64 0) [(0, .c (.i .i64 5))], [], 1⟩,
    ⟨some 7, none, .bd ([.i .i64 0, .i .i64 0, .i .u64 0, .l .o 1 [], .l .o 1 []]) [(0, 1, .c (.i .i64 4)), (1, 1, .c (.i .i64 4)), (4, 1, .k 6)], [], 2⟩,
    ⟨some 8, none, .call n_elder_Write [.k 7, .c (.i .i64 1)], [], 0⟩,
    ⟨some 5, none, .mv (.k 8), [], 0⟩,
    ⟨some 9, none, .ex false 0 5, [], 0⟩,
    ⟨some 10, none, .ex false 1 5, [], 0⟩,
    ⟨some 1, none, .mv (.k 9), [], 0⟩,
    ⟨some 2, none, .mv (.k 10), [], 0⟩] false [1, 2] [])
  (.seq (.reg [] [⟨some 12, none, .call n_elder_Version [.c (.s ⟨#[67, 82, 89, 79, 5]⟩)], [], 0⟩,
    ⟨some 11, none, .mv (.k 12), [], 0⟩,
    ⟨some 13, none, .ex false 0 11, [], 0⟩,
    ⟨some 14, none, .ex false 1 11, [], 0⟩,
    ⟨some 3, none, .mv (.k 13), [], 0⟩,
    ⟨some 4, none, .mv (.k 14), [], 0⟩] false [1, 2, 4] [])
  (.seq (.reg [] [⟨some 15, none, .mv (.k 2), [], 0⟩,
    ⟨some 16, none, .bin .eql (.k 15) (.c (.i .i64 0)), [], 0⟩,
    ⟨some 17, none, .mv (.k 16), [], 0⟩,
    ⟨some 18, some (17, true), .mv (.k 1), [], 0⟩,
    ⟨some 19, some (17, true), .bin .eql (.k 18) (.c (.s ⟨#[67, 82, 89, 79, 1, 4, 4, 5, 0, 0, 0, 0, 0, 0, 0]⟩)), [], 0⟩,
    ⟨some 20, none, .pick (.k 17) (.k 19) (.c (.b false)), [], 0⟩,
    ⟨some 21, none, .mv (.k 20), [], 0⟩,
    ⟨some 22, some (21, true), .mv (.k 4), [], 0⟩,
    ⟨some 23, some (21, true), .bin .eql (.k 22) (.c (.i .i64 8)), [], 0⟩,
    ⟨some 24, none, .pick (.k 21) (.k 23) (.c (.b false)), [], 0⟩,
    ⟨some 0, none, .mv (.k 24), [], 0⟩] false [0] [])
  .ret))))⟩

def F_elder_Version : F := ⟨1, [.inl 2, .inl 3],
  (.seq (.reg [] [⟨some 2, none, .mv (.c (.i .i64 0)), [], 0⟩,
    ⟨some 3, none, .mv (.c (.i .i64 0)), [], 0⟩] false [0] [])
  (.seq (.blk 0 (.seq (.reg [] [⟨some 6, none, .mv (.t 0), [], 0⟩,
    ⟨some 7, none, .call n_strings_HasPrefix [.k 6, .c (.s ⟨#[67, 82, 89, 79]⟩)], [], 0⟩,
    ⟨some 8, none, .un .not (.k 7), [], 0⟩,
    ⟨some 5, none, .mv (.k 8), [], 0⟩] false [0, 5] [])
  (.cond 5 (.seq (.reg [] [⟨some 2, none, .mv (.c (.i .i64 0)), [], 0⟩,
    ⟨some 3, none, .mv (.c (.i .i64 10)), [], 0⟩] false [2, 3] [])
  .ret)
  (.seq (.reg [] [⟨some 10, none, .mv (.t 0), [], 0⟩,
    ⟨some 11, none, .len true (.k 10), [], 0⟩,
    ⟨some 12, none, .bin .gtr (.k 11) (.c (.i .i64 65536)), [], 0⟩,
    ⟨some 9, none, .mv (.k 12), [], 0⟩] false [0, 9] [])
  (.cond 9 (.seq (.reg [] [⟨some 2, none, .mv (.c (.i .i64 0)), [], 0⟩,
    ⟨some 3, none, .mv (.c (.i .i64 3)), [], 0⟩] false [2, 3] [])
  .ret)
  (.seq (.reg [] [⟨some 14, none, .mv (.t 0), [], 0⟩,
    ⟨some 15, none, .len true (.k 14), [], 0⟩,
    ⟨some 16, none, .bin .eql (.k 15) (.c (.i .i64 4)), [], 0⟩,
    ⟨some 13, none, .mv (.k 16), [], 0⟩] false [0, 13] [])
  (.cond 13 (.seq (.reg [] [⟨some 2, none, .mv (.c (.i .i64 0)), [], 0⟩,
    ⟨some 3, none, .mv (.c (.i .i64 1)), [], 0⟩] false [2, 3] [])
  .ret)
  .skip)))))))
  (.seq (.reg [] [⟨some 17, none, .mv (.k 0), [], 0⟩,
    ⟨some 18, none, .ixs (.k 17) (.c (.i .i64 4)), [], 0⟩,
    ⟨some 19, none, .cv (.int .i64) (.k 18), [], 0⟩,
    ⟨some 4, none, .mv (.k 19), [], 0⟩] false [4] [])
  (.seq (.seq (.reg [] [⟨some 20, none, .mv (.t 4), [], 0⟩,
    ⟨some 21, none, .bin .lss (.k 20) (.c (.i .i64 1)), [], 0⟩,
    ⟨some 22, none, .mv (.k 21), [], 0⟩,
    ⟨some 23, some (22, false), .mv (.t 4), [], 0⟩,
    ⟨some 24, some (22, false), .bin .gtr (.k 23) (.c (.i .i64 4)), [], 0⟩,
    ⟨some 25, none, .pick (.k 22) (.c (.b true)) (.k 24), [], 0⟩] false [4, 25] [])
  (.cond 25 (.seq (.reg [] [⟨some 2, none, .mv (.c (.i .i64 0)), [], 0⟩,
    ⟨some 3, none, .mv (.c (.i .i64 8)), [], 0⟩] false [2, 3] [])
  .ret)
  .skip))
  (.seq (.reg [] [⟨some 26, none, .mv (.k 4), [], 0⟩,
    ⟨some 2, none, .mv (.k 26), [], 0⟩,
    ⟨some 3, none, .mv (.c (.i .i64 0)), [], 0⟩] false [2, 3] [])
  .ret)))))⟩

def F_c_ref21_Version : F := ⟨1, [.inl 2, .inl 3],
  (.seq (.reg [] [⟨some 2, none, .mv (.c (.i .i64 0)), [], 0⟩,
    ⟨some 3, none, .mv (.c (.i .i64 0)), [], 0⟩] false [0] [])
  (.seq (.seq (.reg [] [⟨some 4, none, .mv (.t 0), [], 0⟩,
    ⟨some 5, none, .len true (.k 4), [], 0⟩,
    ⟨some 6, none, .bin .lss (.k 5) (.c (.i .i64 4)), [], 0⟩,
    ⟨some 7, none, .mv (.k 6), [], 0⟩,
    ⟨some 8, some (7, false), .mv (.t 0), [], 0⟩,
    ⟨some 9, some (7, false), .ss (.k 8) none (some (.c (.i .i64 4))), [], 0⟩,
    ⟨some 10, some (7, false), .bin .neq (.k 9) (.c (.s ⟨#[67, 82, 89, 79]⟩)), [], 0⟩,
    ⟨some 11, none, .pick (.k 7) (.c (.b true)) (.k 10), [], 0⟩] false [0, 11] [])
  (.cond 11 (.seq (.reg [] [⟨some 2, none, .mv (.c (.i .i64 0)), [], 0⟩,
    ⟨some 3, none, .mv (.c (.i .i64 10)), [], 0⟩] false [2, 3] [])
  .ret)
  .skip))
  (.seq (.seq (.reg [] [⟨some 12, none, .mv (.t 0), [], 0⟩,
    ⟨some 13, none, .len true (.k 12), [], 0⟩,
    ⟨some 14, none, .bin .gtr (.k 13) (.c (.i .i64 65536)), [], 0⟩] false [0, 14] [])
  (.cond 14 (.seq (.reg [] [⟨some 2, none, .mv (.c (.i .i64 0)), [], 0⟩,
    ⟨some 3, none, .mv (.c (.i .i64 3)), [], 0⟩] false [2, 3] [])
  .ret)
  .skip))
  (.seq (.seq (.reg [] [⟨some 15, none, .mv (.t 0), [], 0⟩,
    ⟨some 16, none, .len true (.k 15), [], 0⟩,
    ⟨some 17, none, .bin .lss (.k 16) (.c (.i .i64 5)), [], 0⟩] false [0, 17] [])
  (.cond 17 (.seq (.reg [] [⟨some 2, none, .mv (.c (.i .i64 0)), [], 0⟩,
    ⟨some 3, none, .mv (.c (.i .i64 1)), [], 0⟩] false [2, 3] [])
  .ret)
  .skip))
  (.seq (.seq (.reg [] [⟨some 18, none, .mv (.t 0), [], 0⟩,
    ⟨some 19, none, .ixs (.k 18) (.c (.i .i64 4)), [], 0⟩,
    ⟨some 20, none, .bin .lss (.k 19) (.c (.i .u8 1)), [], 0⟩,
    ⟨some 21, none, .mv (.k 20), [], 0⟩,
    ⟨some 22, some (21, false), .mv (.t 0), [], 0⟩,
    ⟨some 23, some (21, false), .ixs (.k 22) (.c (.i .i64 4)), [], 0⟩,
    ⟨some 24, some (21, false), .bin .gtr (.k 23) (.c (.i .u8 4)), [], 0⟩,
    ⟨some 25, none, .pick (.k 21) (.c (.b true)) (.k 24), [], 0⟩] false [0, 25] [])
  (.cond 25 (.seq (.reg [] [⟨some 2, none, .mv (.c (.i .i64 0)), [], 0⟩,
    ⟨some 3, none, .mv (.c (.i .i64 8)), [], 0⟩] false [2, 3] [])
  .ret)
  .skip))
  (.seq (.reg [] [⟨some 26, none, .mv (.k 0), [], 0⟩,
    ⟨some 27, none, .ixs (.k 26) (.c (.i .i64 4)), [], 0⟩,
    ⟨some 28, none, .cv (.int .i64) (.k 27), [], 0⟩,
    ⟨some 2, none, .mv (.k 28), [], 0⟩,
    ⟨some 3, none, .mv (.c (.i .i64 0)), [], 0⟩] false [2, 3] [])
  .ret))))))⟩

def F_c_law20_awake : F := ⟨0, [.inl 0],
  (.seq (.reg [] [⟨some 0, none, .mv (.c (.b false)), [], 0⟩] false [] [])
  (.seq (.reg [] [⟨some 6, none, .bs 1 1 (.i .i64 0) [(0, .c (.i .i64 300))], [], 1⟩,
    ⟨some 7, none, .bd ([.i .i64 0, .i .i64 0, .i .u64 0, .l .o 1 [], .l .o 1 []]) [(0, 1, .c (.i .i64 4)), (1, 1, .c (.i .i64 4)), (4, 1, .k 6)], [], 2⟩,
    ⟨some 8, none, .call n_file_Encode [.k 7], [], 0⟩,
    ⟨some 5, none, .mv (.k 8), [], 0⟩,
    ⟨some 9, none, .ex false 0 5, [], 0⟩,
    ⟨some 10, none, .ex false 1 5, [], 0⟩,
    ⟨some 1, none, .mv (.k 9), [], 0⟩,
    ⟨some 2, none, .mv (.k 10), [], 0⟩] false [1, 2] [])
  (.seq (.reg [] [⟨some 12, none, .call n_file_Decode [.c (.s ⟨#[67, 82, 89, 88]⟩)], [], 0⟩,
    ⟨some 11, none, .mv (.k 12), [], 0⟩,
    ⟨some 13, none, .ex false 0 11, [], 0⟩,
    ⟨some 14, none, .ex false 1 11, [], 0⟩,
    ⟨some 3, none, .al ([.i .i64 0, .i .i64 0, .i .u64 0, .l .o 1 [], .l .o 1 []]), [], 0⟩,
    ⟨none, none, .st 5 (.k 3) (.k 13), [], 0⟩,
    ⟨some 4, none, .mv (.k 14), [], 0⟩] false [1, 2, 4] [])
  (.seq (.reg [] [⟨some 15, none, .mv (.k 2), [], 0⟩,
    ⟨some 16, none, .bin .eql (.k 15) (.c (.i .i64 0)), [], 0⟩,
    ⟨some 17, none, .mv (.k 16), [], 0⟩,
    ⟨some 18, some (17, true), .mv (.t 1), [], 0⟩,
    ⟨some 19, some (17, true), .len true (.k 18), [], 0⟩,
    ⟨some 20, some (17, true), .bin .eql (.k 19) (.c (.i .i64 45)), [], 0⟩,
    ⟨some 21, none, .pick (.k 17) (.k 20) (.c (.b false)), [], 0⟩,
    ⟨some 22, none, .mv (.k 21), [], 0⟩,
    ⟨some 23, some (22, true), .mv (.k 1), [], 0⟩,
    ⟨some 24, some (22, true), .ss (.k 23) none (some (.c (.i .i64 5))), [], 0⟩,
    ⟨some 25, some (22, true), .bin .eql (.k 24) (.c (.s ⟨#[67, 82, 89, 79, 4]⟩)), [], 0⟩,
    ⟨some 26, none, .pick (.k 22) (.k 25) (.c (.b false)), [], 0⟩,
    ⟨some 27, none, .mv (.k 26), [], 0⟩,
    ⟨some 28, some (27, true), .mv (.k 4), [], 0⟩,
    ⟨some 29, some (27, true), .bin .eql (.k 28) (.c (.i .i64 10)), [], 0⟩,
    ⟨some 30, none, .pick (.k 27) (.k 29) (.c (.b false)), [], 0⟩,
    ⟨some 0, none, .mv (.k 30), [], 0⟩] false [0] [])
  .ret))))⟩

def F_c_ref20_Encode : F := ⟨1, [.inl 2],
  (.seq (.reg [.zz 0] [⟨some 1, none, .bx (.k 0), [], 0⟩,
    ⟨some 2, none, .mv (.c (.s ⟨#[]⟩)), [], 0⟩] false [1] [1])
  (.seq (.reg [] [⟨some 6, none, .ld true 5 .cp (.t 1), [], 2⟩,
    ⟨some 7, none, .call n_c_ref19_Meta [.k 6], [], 0⟩,
    ⟨some 8, none, .ld true 5 .cp (.t 1), [0, 1], 2⟩,
    ⟨some 9, none, .call n_c_ref19_Data [.k 8], [], 0⟩,
    ⟨some 3, none, .mv (.k 7), [], 0⟩,
    ⟨some 4, none, .mv (.k 9), [], 0⟩] true [1, 3, 4] [1])
  (.seq (.reg [] [⟨some 10, none, .fa 0 (.k 1), [], 0⟩,
    ⟨some 11, none, .ld false 1 .cp (.k 10), [], 0⟩,
    ⟨some 12, none, .cv (.int .u8) (.k 11), [], 0⟩,
    ⟨some 13, none, .bs 1 2 (.i .u8 0) [(0, .c (.i .u8 4)), (1, .k 12)], [], 1⟩,
    ⟨some 14, none, .cv .str (.k 13), [], 0⟩,
    ⟨some 15, none, .bin .add (.c (.s ⟨#[67, 82, 89, 79]⟩)) (.k 14), [], 0⟩,
    ⟨some 16, none, .mv (.t 3), [0, 1, 2, 3, 4, 5], 0⟩,
    ⟨some 17, none, .len true (.k 16), [0, 1, 2, 3, 4, 5], 0⟩,
    ⟨some 18, none, .bin .add (.c (.i .i64 41)) (.k 17), [0, 1, 2, 3, 4, 5], 0⟩,
    ⟨some 19, none, .mv (.t 4), [0, 1, 2, 3, 4, 5, 6, 7, 8], 0⟩,
    ⟨some 20, none, .len true (.k 19), [0, 1, 2, 3, 4, 5, 6, 7, 8], 0⟩,
    ⟨some 21, none, .bin .add (.k 18) (.k 20), [0, 1, 2, 3, 4, 5], 0⟩,
    ⟨some 22, none, .call n_c_ref20_word [.k 21], [0, 1, 2, 3, 4, 5], 0⟩,
    ⟨some 23, none, .bin .add (.k 15) (.k 22), [], 0⟩,
    ⟨some 24, none, .bin .add (.k 23) (.c (.s ⟨#[2]⟩)), [], 0⟩,
    ⟨some 5, none, .mv (.k 24), [], 0⟩] true [3, 4, 5] [])
  (.seq (.reg [] [⟨some 25, none, .mv (.k 5), [], 0⟩,
    ⟨some 26, none, .mv (.t 3), [], 0⟩,
    ⟨some 27, none, .call n_c_ref20_entry [.c (.i .i64 1), .c (.i .i64 37), .k 26], [], 0⟩,
    ⟨some 28, none, .mv (.t 3), [], 0⟩,
    ⟨some 29, none, .len true (.k 28), [], 0⟩,
    ⟨some 30, none, .bin .add (.c (.i .i64 37)) (.k 29), [], 0⟩,
    ⟨some 31, none, .mv (.t 4), [], 0⟩,
    ⟨some 32, none, .call n_c_ref20_entry [.c (.i .i64 2), .k 30, .k 31], [], 0⟩,
    ⟨some 33, none, .bin .add (.k 27) (.k 32), [], 0⟩,
    ⟨some 34, none, .mv (.k 3), [], 0⟩,
    ⟨some 35, none, .bin .add (.k 33) (.k 34), [], 0⟩,
    ⟨some 36, none, .mv (.k 4), [], 0⟩,
    ⟨some 37, none, .bin .add (.k 35) (.k 36), [], 0⟩,
    ⟨some 38, none, .bin .add (.k 25) (.k 37), [], 0⟩,
    ⟨some 5, none, .mv (.k 38), [], 0⟩] false [5] [])
  (.seq (.reg [] [⟨some 39, none, .mv (.t 5), [], 0⟩,
    ⟨some 40, none, .mv (.k 5), [], 0⟩,
    ⟨some 41, none, .call n_c_ref02_Sum [.k 40], [], 0⟩,
    ⟨some 42, none, .cv (.int .i64) (.k 41), [], 0⟩,
    ⟨some 43, none, .call n_c_ref20_word [.k 42], [], 0⟩,
    ⟨some 44, none, .bin .add (.k 39) (.k 43), [], 0⟩,
    ⟨some 2, none, .mv (.k 44), [], 0⟩] false [2] [])
  .ret)))))⟩

def F_c_law20_reads : F := ⟨1, [.inl 2],
  (.seq (.reg [] [⟨some 2, none, .mv (.c (.b false)), [], 0⟩] false [0] [])
  (.seq (.reg [] [⟨some 10, none, .mv (.t 0), [], 0⟩,
    ⟨some 11, none, .call n_file_Decode [.k 10], [], 0⟩,
    ⟨some 9, none, .mv (.k 11), [], 0⟩,
    ⟨some 12, none, .ex false 0 9, [], 0⟩,
    ⟨some 13, none, .ex false 1 9, [], 0⟩,
    ⟨some 3, none, .al ([.i .i64 0, .i .i64 0, .i .u64 0, .l .o 1 [], .l .o 1 []]), [], 0⟩,
    ⟨none, none, .st 5 (.t 3) (.k 12), [], 0⟩,
    ⟨some 4, none, .mv (.k 13), [], 0⟩] false [0, 3, 4] [3])
  (.seq (.reg [] [⟨some 15, none, .mv (.t 0), [], 0⟩,
    ⟨some 16, none, .call n_c_ref20_Decode [.k 15], [], 0⟩,
    ⟨some 14, none, .mv (.k 16), [], 0⟩,
    ⟨some 17, none, .ex false 0 14, [], 0⟩,
    ⟨some 18, none, .ex false 1 14, [], 0⟩,
    ⟨some 5, none, .al ([.i .i64 0, .i .i64 0, .i .u64 0, .l .o 1 [], .l .o 1 []]), [], 0⟩,
    ⟨none, none, .st 5 (.t 5) (.k 17), [], 0⟩,
    ⟨some 6, none, .mv (.k 18), [], 0⟩] false [0, 3, 4, 5, 6] [3, 5])
  (.seq (.seq (.reg [] [⟨some 19, none, .mv (.t 6), [], 0⟩,
    ⟨some 20, none, .bin .neq (.k 19) (.c (.i .i64 0)), [], 0⟩] false [0, 3, 4, 5, 6, 20] [3, 5])
  (.cond 20 (.seq (.reg [] [⟨some 21, none, .mv (.k 4), [], 0⟩,
    ⟨some 22, none, .mv (.k 6), [], 0⟩,
    ⟨some 23, none, .bin .eql (.k 21) (.k 22), [], 0⟩,
    ⟨some 24, none, .mv (.k 23), [], 0⟩,
    ⟨some 25, some (24, true), .fa 0 (.t 3), [], 0⟩,
    ⟨some 26, some (24, true), .ld false 1 .cp (.k 25), [], 0⟩,
    ⟨some 27, some (24, true), .bin .eql (.k 26) (.c (.i .i64 0)), [], 0⟩,
    ⟨some 28, none, .pick (.k 24) (.k 27) (.c (.b false)), [], 0⟩,
    ⟨some 29, none, .mv (.k 28), [], 0⟩,
    ⟨some 30, some (29, true), .fa 3 (.t 3), [], 0⟩,
    ⟨some 31, some (29, true), .ld false 1 .cp (.k 30), [], 0⟩,
    ⟨some 32, some (29, true), .len false (.k 31), [], 0⟩,
    ⟨some 33, some (29, true), .fa 4 (.k 3), [], 0⟩,
    ⟨some 34, some (29, true), .ld false 1 .tk (.k 33), [], 0⟩,
    ⟨some 35, some (29, true), .len false (.k 34), [], 0⟩,
    ⟨some 36, some (29, true), .bin .add (.k 32) (.k 35), [], 0⟩,
    ⟨some 37, some (29, true), .bin .eql (.k 36) (.c (.i .i64 0)), [], 0⟩,
    ⟨some 38, none, .pick (.k 29) (.k 37) (.c (.b false)), [], 0⟩,
    ⟨some 2, none, .mv (.k 38), [], 0⟩] false [2] [])
  .ret)
  .skip))
  (.seq (.seq (.reg [] [⟨some 39, none, .mv (.k 4), [], 0⟩,
    ⟨some 40, none, .bin .neq (.k 39) (.c (.i .i64 0)), [], 0⟩,
    ⟨some 41, none, .mv (.k 40), [], 0⟩,
    ⟨some 42, some (41, false), .ld true 5 .cp (.t 3), [], 2⟩,
    ⟨some 43, some (41, false), .ld true 5 .tk (.k 5), [], 2⟩,
    ⟨some 44, some (41, false), .call n_c_law18_Is [.k 42, .k 43], [], 0⟩,
    ⟨some 45, some (41, false), .bin .neq (.k 44) (.c (.i .i64 0)), [], 0⟩,
    ⟨some 46, none, .pick (.k 41) (.c (.b true)) (.k 45), [], 0⟩] false [0, 3, 46] [3])
  (.cond 46 (.seq (.reg [] [⟨some 2, none, .mv (.c (.b false)), [], 0⟩] false [2] [])
  .ret)
  .skip))
  (.seq (.reg [] [⟨some 48, none, .ld true 5 .tk (.k 3), [], 2⟩,
    ⟨some 49, none, .call n_file_Encode [.k 48], [], 0⟩,
    ⟨some 47, none, .mv (.k 49), [], 0⟩,
    ⟨some 50, none, .ex false 0 47, [], 0⟩,
    ⟨some 51, none, .ex false 1 47, [], 0⟩,
    ⟨some 7, none, .mv (.k 50), [], 0⟩,
    ⟨some 8, none, .mv (.k 51), [], 0⟩] false [0, 7, 8] [])
  (.seq (.reg [] [⟨some 52, none, .mv (.k 8), [], 0⟩,
    ⟨some 53, none, .bin .eql (.k 52) (.c (.i .i64 0)), [], 0⟩,
    ⟨some 54, none, .mv (.k 53), [], 0⟩,
    ⟨some 55, some (54, true), .mv (.k 7), [], 0⟩,
    ⟨some 56, some (54, true), .mv (.k 0), [], 0⟩,
    ⟨some 57, some (54, true), .bin .eql (.k 55) (.k 56), [], 0⟩,
    ⟨some 58, none, .pick (.k 54) (.k 57) (.c (.b false)), [], 0⟩,
    ⟨some 2, none, .mv (.k 58), [], 0⟩] false [2] [])
  .ret)))))))⟩

def F_c_ref02_Seal : F := ⟨1, [.inl 2],
  (.seq (.reg [] [⟨some 2, none, .mv (.c (.s ⟨#[]⟩)), [], 0⟩] false [0] [])
  (.seq (.reg [] [⟨some 3, none, .mv (.t 0), [], 0⟩,
    ⟨some 4, none, .mv (.k 0), [], 0⟩,
    ⟨some 5, none, .call n_c_ref02_Sum [.k 4], [], 0⟩,
    ⟨some 6, none, .call n_c_ref02_Word [.k 5], [], 0⟩,
    ⟨some 7, none, .bin .add (.k 3) (.k 6), [], 0⟩,
    ⟨some 2, none, .mv (.k 7), [], 0⟩] false [2] [])
  .ret))⟩

def F_file_Decode : F := ⟨1, [.inr (2, true, 5), .inl 3],
  (.seq (.reg [] [⟨some 2, none, .al ([.i .i64 0, .i .i64 0, .i .u64 0, .l .o 1 [], .l .o 1 []]), [], 0⟩,
    ⟨some 3, none, .mv (.c (.i .i64 0)), [], 0⟩] false [0, 2] [2])
  (.seq (.reg [] [⟨some 9, none, .call n_crc_Make [], [], 0⟩,
    ⟨some 10, none, .bd ([.nilp, .s ⟨#[]⟩, .l .o 2 []]) [(0, 1, .k 9)], [], 0⟩,
    ⟨some 11, none, .bg (.k 10), [], 0⟩,
    ⟨some 4, none, .mv (.k 11), [], 0⟩] false [0, 2, 4] [2])
  (.seq (.reg [] [⟨some 13, none, .mv (.t 4), [], 0⟩,
    ⟨some 14, none, .mv (.k 0), [], 0⟩,
    ⟨some 15, none, .call n_file_reader_begin [.k 13, .k 14], [], 0⟩,
    ⟨some 12, none, .mv (.k 15), [], 0⟩,
    ⟨some 16, none, .ex false 0 12, [], 0⟩,
    ⟨some 17, none, .ex false 1 12, [], 0⟩,
    ⟨some 18, none, .ex false 2 12, [], 0⟩,
    ⟨some 5, none, .mv (.k 16), [], 0⟩,
    ⟨some 6, none, .mv (.k 17), [], 0⟩,
    ⟨some 7, none, .mv (.k 18), [], 0⟩] false [2, 4, 5, 6, 7] [2])
  (.seq (.seq (.reg [] [⟨some 19, none, .mv (.t 7), [], 0⟩,
    ⟨some 20, none, .bin .eql (.k 19) (.c (.i .i64 0)), [], 0⟩] false [2, 4, 5, 6, 7, 20] [2])
  (.cond 20 (.reg [] [⟨some 21, none, .mv (.t 4), [], 0⟩,
    ⟨some 22, none, .mv (.k 5), [], 0⟩,
    ⟨some 23, none, .call n_file_reader_sections [.k 21, .k 22], [], 0⟩,
    ⟨some 7, none, .mv (.k 23), [], 0⟩] false [2, 4, 6, 7] [2])
  .skip))
  (.seq (.reg [] [⟨some 8, none, .al ([.i .i64 0, .i .i64 0, .i .u64 0, .l .o 1 [], .l .o 1 []]), [], 0⟩] false [2, 4, 6, 7, 8] [2, 8])
  (.seq (.seq (.reg [] [⟨some 24, none, .mv (.t 7), [], 0⟩,
    ⟨some 25, none, .bin .eql (.k 24) (.c (.i .i64 0)), [], 0⟩] false [2, 4, 6, 7, 8, 25] [2, 8])
  (.cond 25 (.reg [] [⟨some 27, none, .mv (.k 6), [], 0⟩,
    ⟨some 28, none, .mv (.k 4), [], 0⟩,
    ⟨some 29, none, .nc (.k 28), [], 0⟩,
    ⟨some 30, none, .fa 2 (.k 29), [], 0⟩,
    ⟨some 31, none, .ld false 1 .cp (.k 30), [], 2⟩,
    ⟨some 32, none, .call n_section_Read [.k 27, .k 31], [], 0⟩,
    ⟨some 26, none, .mv (.k 32), [], 0⟩,
    ⟨some 33, none, .ex false 0 26, [], 0⟩,
    ⟨some 34, none, .ex false 1 26, [], 0⟩,
    ⟨none, none, .st 5 (.t 8) (.k 33), [], 0⟩,
    ⟨some 7, none, .mv (.k 34), [], 0⟩] false [2, 7, 8] [2, 8])
  .skip))
  (.seq (.seq (.reg [] [⟨some 35, none, .mv (.t 7), [], 0⟩,
    ⟨some 36, none, .bin .eql (.k 35) (.c (.i .i64 0)), [], 0⟩] false [2, 7, 8, 36] [2, 8])
  (.cond 36 (.reg [] [⟨some 37, none, .ld true 5 .cp (.t 8), [], 2⟩,
    ⟨some 38, none, .call n_image_Image_Check [.k 37], [], 0⟩,
    ⟨some 7, none, .mv (.k 38), [], 0⟩] false [2, 7, 8] [2, 8])
  .skip))
  (.seq (.seq (.reg [] [⟨some 39, none, .mv (.t 7), [], 0⟩,
    ⟨some 40, none, .bin .neq (.k 39) (.c (.i .i64 0)), [], 0⟩] false [2, 7, 8, 40] [2, 8])
  (.cond 40 (.seq (.reg [] [⟨some 41, none, .bd ([.i .i64 0, .i .i64 0, .i .u64 0, .l .o 1 [], .l .o 1 []]) [], [], 0⟩,
    ⟨some 42, none, .mv (.k 7), [], 0⟩,
    ⟨none, none, .st 5 (.t 2) (.k 41), [], 0⟩,
    ⟨some 3, none, .mv (.k 42), [], 0⟩] false [2, 3] [2])
  .ret)
  .skip))
  (.seq (.reg [] [⟨some 43, none, .ld true 5 .tk (.k 8), [], 0⟩,
    ⟨none, none, .st 5 (.t 2) (.k 43), [], 0⟩,
    ⟨some 3, none, .mv (.c (.i .i64 0)), [], 0⟩] false [2, 3] [2])
  .ret)))))))))⟩

def F_file_Encode : F := ⟨1, [.inl 2, .inl 3],
  (.seq (.reg [.zz 0] [⟨some 1, none, .bx (.k 0), [], 0⟩,
    ⟨some 2, none, .mv (.c (.s ⟨#[]⟩)), [], 0⟩,
    ⟨some 3, none, .mv (.c (.i .i64 0)), [], 0⟩] false [1] [1])
  (.seq (.seq (.reg [] [⟨some 13, none, .ld true 5 .cp (.t 1), [], 2⟩,
    ⟨some 14, none, .call n_image_Image_Check [.k 13], [], 0⟩,
    ⟨some 4, none, .mv (.k 14), [], 0⟩] false [1, 4] [1])
  (.seq (.reg [] [⟨some 15, none, .mv (.t 4), [], 0⟩,
    ⟨some 16, none, .bin .neq (.k 15) (.c (.i .i64 0)), [], 0⟩] false [1, 4, 16] [1])
  (.cond 16 (.seq (.reg [] [⟨some 17, none, .mv (.k 4), [], 0⟩,
    ⟨some 2, none, .mv (.c (.s ⟨#[]⟩)), [], 0⟩,
    ⟨some 3, none, .mv (.k 17), [], 0⟩] false [2, 3] [])
  .ret)
  .skip)))
  (.seq (.reg [] [⟨some 18, none, .call n_crc_Make [], [], 0⟩,
    ⟨some 5, none, .mv (.k 18), [], 0⟩] false [1, 5] [1])
  (.seq (.reg [] [⟨some 19, none, .ld true 5 .cp (.t 1), [], 2⟩,
    ⟨some 20, none, .call n_section_Of [.k 19], [], 0⟩,
    ⟨some 6, none, .mv (.k 20), [], 0⟩] false [1, 5, 6] [1])
  (.seq (.reg [] [⟨some 21, none, .mv (.t 6), [], 0⟩,
    ⟨some 22, none, .len false (.k 21), [], 0⟩,
    ⟨some 23, none, .bin .mul (.c (.i .i64 13)) (.k 22), [], 0⟩,
    ⟨some 24, none, .bin .add (.c (.i .i64 11)) (.k 23), [], 0⟩,
    ⟨some 7, none, .mv (.k 24), [], 0⟩] false [1, 5, 6, 7] [1])
  (.seq (.reg [] [⟨some 8, none, .mv (.c (.l .o 1 [])), [], 0⟩,
    ⟨some 9, none, .mv (.c (.l .o 1 [])), [], 0⟩] false [1, 5, 6, 7, 8, 9] [1])
  (.seq (.seq (.reg [] [⟨some 25, none, .mv (.t 6), [], 0⟩,
    ⟨some 26, none, .len false (.t 25), [], 0⟩,
    ⟨some 27, none, .mv (.c (.i .i64 0)), [], 0⟩] false [1, 5, 6, 7, 8, 9, 25, 26, 27] [1])
  (.blk 0 (.loop (.seq (.reg [] [⟨some 28, none, .bin .lss (.t 27) (.t 26), [], 0⟩] false [1, 5, 6, 7, 8, 9, 25, 26, 27, 28] [1])
  (.seq (.cond 28 .skip
  (.exit 0))
  (.seq (.blk 1 (.seq (.reg [] [⟨some 29, none, .ia 2 none (.t 25) (.t 27), [], 0⟩,
    ⟨some 30, none, .ld true 2 .cp (.k 29), [], 0⟩,
    ⟨some 11, none, .al ([.i .i64 0, .s ⟨#[]⟩]), [], 0⟩,
    ⟨none, none, .st 2 (.t 11) (.k 30), [], 0⟩] false [1, 5, 6, 7, 8, 9, 11, 25, 26, 27] [1, 11])
  (.seq (.reg [] [⟨some 31, none, .mv (.k 8), [], 0⟩,
    ⟨some 32, none, .fa 0 (.t 11), [], 0⟩,
    ⟨some 33, none, .ld false 1 .cp (.k 32), [], 0⟩,
    ⟨some 34, none, .cv (.int .u8) (.k 33), [], 0⟩,
    ⟨some 35, none, .bs 1 1 (.i .u8 0) [(0, .k 34)], [], 0⟩,
    ⟨some 36, none, .app 1 1 (.k 31) (.k 35), [], 1⟩,
    ⟨some 8, none, .mv (.k 36), [], 0⟩] false [1, 5, 6, 7, 8, 9, 11, 25, 26, 27] [1, 11])
  (.seq (.reg [] [⟨some 37, none, .mv (.k 8), [], 0⟩,
    ⟨some 38, none, .mv (.t 7), [0], 0⟩,
    ⟨some 39, none, .mv (.t 9), [0, 1], 0⟩,
    ⟨some 40, none, .len false (.k 39), [0, 1], 0⟩,
    ⟨some 41, none, .bin .add (.k 38) (.k 40), [0], 0⟩,
    ⟨some 42, none, .cv (.int .u32) (.k 41), [0], 0⟩,
    ⟨some 43, none, .call n_octet_Word [.k 37, .k 42], [], 0⟩,
    ⟨some 44, none, .fa 1 (.t 11), [0, 1, 2, 3, 4, 5, 6], 0⟩,
    ⟨some 45, none, .ld false 1 .cp (.k 44), [0, 1, 2, 3, 4, 5, 6], 0⟩,
    ⟨some 46, none, .len true (.k 45), [0, 1, 2, 3, 4, 5, 6], 0⟩,
    ⟨some 47, none, .cv (.int .u32) (.k 46), [0, 1, 2, 3, 4, 5, 6], 0⟩,
    ⟨some 48, none, .call n_octet_Word [.k 43, .k 47], [], 0⟩,
    ⟨some 49, none, .mv (.t 5), [0, 1, 2, 3, 4, 5, 6, 7, 8, 9, 10, 11], 0⟩,
    ⟨some 50, none, .fa 1 (.t 11), [0, 1, 2, 3, 4, 5, 6, 7, 8, 9, 10, 11, 12], 0⟩,
    ⟨some 51, none, .ld false 1 .cp (.k 50), [0, 1, 2, 3, 4, 5, 6, 7, 8, 9, 10, 11, 12], 0⟩,
    ⟨some 52, none, .bs 1 1 (.s ⟨#[]⟩) [(0, .k 51)], [0, 1, 2, 3, 4, 5, 6, 7, 8, 9, 10, 11, 12], 2⟩,
    ⟨some 53, none, .call n_crc_Table_Sum [.k 49, .k 52], [], 0⟩,
    ⟨some 54, none, .call n_octet_Word [.k 48, .k 53], [], 0⟩,
    ⟨some 8, none, .mv (.k 54), [], 0⟩] true [1, 5, 6, 7, 8, 9, 11, 25, 26, 27] [1, 11])
  (.reg [] [⟨some 55, none, .mv (.k 9), [], 0⟩,
    ⟨some 56, none, .fa 1 (.k 11), [], 0⟩,
    ⟨some 57, none, .ld false 1 .cp (.k 56), [], 0⟩,
    ⟨some 58, none, .apps (.k 55) (.k 57), [], 1⟩,
    ⟨some 9, none, .mv (.k 58), [], 0⟩] false [1, 5, 6, 7, 8, 9, 25, 26, 27] [1])))))
  (.reg [] [⟨some 59, none, .bin .add (.k 27) (.c (.i .i64 1)), [], 0⟩,
    ⟨some 27, none, .mv (.k 59), [], 0⟩] false [1, 5, 6, 7, 8, 9, 25, 26, 27] [1])))))))
  (.seq (.reg [] [⟨some 60, none, .bs 1 4 (.i .u8 0) [(0, .c (.i .u8 67)), (1, .c (.i .u8 82)), (2, .c (.i .u8 89)), (3, .c (.i .u8 79))], [], 0⟩,
    ⟨some 61, none, .cv .mark (.k 60), [], 1⟩,
    ⟨some 62, none, .fa 0 (.k 1), [], 0⟩,
    ⟨some 63, none, .ld false 1 .cp (.k 62), [], 0⟩,
    ⟨some 64, none, .cv (.int .u8) (.k 63), [], 0⟩,
    ⟨some 65, none, .bs 1 2 (.i .u8 0) [(0, .c (.i .u8 4)), (1, .k 64)], [], 0⟩,
    ⟨some 66, none, .app 1 1 (.k 61) (.k 65), [], 1⟩,
    ⟨some 12, none, .mv (.k 66), [], 0⟩] false [5, 6, 7, 8, 9, 12] [])
  (.seq (.reg [] [⟨some 67, none, .mv (.k 12), [], 0⟩,
    ⟨some 68, none, .mv (.k 7), [], 0⟩,
    ⟨some 69, none, .mv (.t 9), [], 0⟩,
    ⟨some 70, none, .len false (.k 69), [], 0⟩,
    ⟨some 71, none, .bin .add (.k 68) (.k 70), [], 0⟩,
    ⟨some 72, none, .bin .add (.k 71) (.c (.i .i64 4)), [], 0⟩,
    ⟨some 73, none, .cv (.int .u32) (.k 72), [], 0⟩,
    ⟨some 74, none, .call n_octet_Word [.k 67, .k 73], [], 0⟩,
    ⟨some 12, none, .mv (.k 74), [], 0⟩] false [5, 6, 8, 9, 12] [])
  (.seq (.reg [] [⟨some 75, none, .mv (.k 12), [], 0⟩,
    ⟨some 76, none, .mv (.k 6), [], 0⟩,
    ⟨some 77, none, .len false (.k 76), [], 0⟩,
    ⟨some 78, none, .cv (.int .u8) (.k 77), [], 0⟩,
    ⟨some 79, none, .bs 1 1 (.i .u8 0) [(0, .k 78)], [], 0⟩,
    ⟨some 80, none, .app 1 1 (.k 75) (.k 79), [], 1⟩,
    ⟨some 81, none, .mv (.k 8), [], 0⟩,
    ⟨some 82, none, .app 1 1 (.k 80) (.k 81), [], 1⟩,
    ⟨some 83, none, .mv (.k 9), [], 0⟩,
    ⟨some 84, none, .app 1 1 (.k 82) (.k 83), [], 1⟩,
    ⟨some 12, none, .mv (.k 84), [], 0⟩] false [5, 12] [])
  (.seq (.reg [] [⟨some 85, none, .mv (.k 5), [], 0⟩,
    ⟨some 86, none, .mv (.k 12), [], 0⟩,
    ⟨some 87, none, .cv .str (.k 86), [], 0⟩,
    ⟨some 88, none, .call n_crc_Table_Seal [.k 85, .k 87], [], 0⟩,
    ⟨some 2, none, .mv (.k 88), [], 0⟩,
    ⟨some 3, none, .mv (.c (.i .i64 0)), [], 0⟩] false [2, 3] [])
  .ret)))))))))))⟩

def F_c_law12_Kind : F := ⟨2, [.inl 4, .inl 5],
  (.seq (.reg [] [⟨some 4, none, .mv (.c (.i .i64 0)), [], 0⟩,
    ⟨some 5, none, .mv (.c (.i .i64 0)), [], 0⟩] false [0, 1] [])
  (.seq (.reg [] [⟨some 6, none, .mv (.k 0), [], 0⟩,
    ⟨some 7, none, .bin .and (.k 6) (.c (.i .i64 255)), [], 0⟩,
    ⟨some 8, none, .bin .rem (.k 7) (.c (.i .i64 4)), [], 0⟩,
    ⟨some 9, none, .bin .add (.c (.i .i64 1)) (.k 8), [], 0⟩,
    ⟨some 0, none, .mv (.k 9), [], 0⟩] false [0, 1] [])
  (.seq (.seq (.reg [] [⟨some 10, none, .mv (.t 0), [], 0⟩,
    ⟨some 11, none, .bin .eql (.k 10) (.c (.i .i64 4)), [], 0⟩] false [0, 1, 11] [])
  (.cond 11 (.seq (.reg [] [⟨some 12, none, .mv (.k 0), [], 0⟩,
    ⟨some 13, none, .mv (.k 1), [0], 0⟩,
    ⟨some 14, none, .bin .and (.k 13) (.c (.i .i64 255)), [0], 0⟩,
    ⟨some 15, none, .bin .rem (.k 14) (.c (.i .i64 5)), [0], 0⟩,
    ⟨some 16, none, .bin .shl (.c (.i .i64 1)) (.k 15), [0], 0⟩,
    ⟨some 4, none, .mv (.k 12), [1, 2, 3, 4], 0⟩,
    ⟨some 5, none, .mv (.k 16), [], 0⟩] true [4, 5] [])
  .ret)
  .skip))
  (.seq (.reg [] [⟨some 17, none, .mv (.k 0), [], 0⟩,
    ⟨some 18, none, .mv (.k 1), [], 0⟩,
    ⟨some 19, none, .bin .and (.k 18) (.c (.i .i64 255)), [], 0⟩,
    ⟨some 20, none, .bin .rem (.k 19) (.c (.i .i64 16)), [], 0⟩,
    ⟨some 21, none, .bin .add (.c (.i .i64 1)) (.k 20), [], 0⟩,
    ⟨some 4, none, .mv (.k 17), [], 0⟩,
    ⟨some 5, none, .mv (.k 21), [], 0⟩] false [4, 5] [])
  .ret))))⟩

def F_c_law04_Own : F := ⟨1, [.inr (2, true, 2)],
  (.seq (.reg [] [⟨some 1, none, .bx (.k 0), [], 0⟩,
    ⟨some 2, none, .al ([.f .f64 0, .i .i64 0]), [], 0⟩] false [1, 2] [1, 2])
  (.seq (.reg [] [⟨some 3, none, .fa 0 (.t 1), [], 0⟩,
    ⟨some 4, none, .ld false 1 .cp (.k 3), [], 0⟩,
    ⟨some 5, none, .call n_c_law03_F [.k 4], [], 0⟩,
    ⟨some 6, none, .fa 1 (.t 1), [0, 1, 2], 0⟩,
    ⟨some 7, none, .ld false 1 .cp (.k 6), [0, 1, 2], 0⟩,
    ⟨some 8, none, .bd ([.f .f64 0, .i .i64 0]) [(0, 1, .k 5), (1, 1, .k 7)], [], 0⟩,
    ⟨none, none, .st 2 (.t 2) (.k 8), [], 0⟩] true [2] [2])
  .ret))⟩

def F_pile_Item_Canon : F := ⟨1, [.inr (2, true, 2)],
  (.seq (.reg [] [⟨some 1, none, .bx (.k 0), [], 0⟩,
    ⟨some 2, none, .al ([.f .f64 0, .i .i64 0]), [], 0⟩] false [1, 2] [1, 2])
  (.seq (.reg [] [⟨some 3, none, .fa 0 (.t 1), [], 0⟩,
    ⟨some 4, none, .ld false 1 .cp (.k 3), [], 0⟩,
    ⟨some 5, none, .call n_real_Canon [.k 4], [], 0⟩,
    ⟨some 6, none, .fa 1 (.t 1), [0, 1, 2], 0⟩,
    ⟨some 7, none, .ld false 1 .cp (.k 6), [0, 1, 2], 0⟩,
    ⟨some 8, none, .bd ([.f .f64 0, .i .i64 0]) [(0, 1, .k 5), (1, 1, .k 7)], [], 0⟩,
    ⟨none, none, .st 2 (.t 2) (.k 8), [], 0⟩] true [2] [2])
  .ret))⟩

def F_c_law17_sorted : F := ⟨1, [.inl 2],
  (.seq (.reg [.zz 0] [⟨some 2, none, .mv (.c (.l .o 2 [])), [], 0⟩] false [0] [])
  (.seq (.reg [] [⟨some 7, none, .bs 2 0 (.a ([.f .f64 0, .i .i64 0])) [], [], 1⟩,
    ⟨some 3, none, .mv (.k 7), [], 0⟩] false [0, 3] [])
  (.seq (.seq (.reg [] [⟨some 8, none, .mv (.k 0), [], 0⟩,
    ⟨some 9, none, .len false (.t 8), [], 0⟩,
    ⟨some 10, none, .mv (.c (.i .i64 0)), [], 0⟩] false [3, 8, 9, 10] [])
  (.blk 0 (.loop (.seq (.reg [] [⟨some 11, none, .bin .lss (.t 10) (.t 9), [], 0⟩] false [3, 8, 9, 10, 11] [])
  (.seq (.cond 11 .skip
  (.exit 0))
  (.seq (.blk 1 (.seq (.reg [] [⟨some 12, none, .ia 2 none (.t 8) (.t 10), [], 0⟩,
    ⟨some 13, none, .ld true 2 .cp (.k 12), [], 0⟩,
    ⟨some 5, none, .al ([.f .f64 0, .i .i64 0]), [], 0⟩,
    ⟨none, none, .st 2 (.t 5) (.k 13), [], 0⟩] false [3, 5, 8, 9, 10] [5])
  (.seq (.reg [] [⟨some 14, none, .mv (.t 3), [], 0⟩,
    ⟨some 15, none, .len false (.k 14), [], 0⟩,
    ⟨some 6, none, .mv (.k 15), [], 0⟩] false [3, 5, 6, 8, 9, 10] [5])
  (.seq (.blk 2 (.loop (.seq (.seq (.reg [] [⟨some 16, none, .mv (.t 6), [], 0⟩,
    ⟨some 17, none, .bin .gtr (.k 16) (.c (.i .i64 0)), [], 0⟩,
    ⟨some 18, none, .mv (.k 17), [], 0⟩,
    ⟨some 19, some (18, true), .ld true 2 .cp (.t 5), [], 0⟩,
    ⟨some 20, some (18, true), .mv (.t 3), [3], 0⟩,
    ⟨some 21, some (18, true), .mv (.t 6), [3, 4], 0⟩,
    ⟨some 22, some (18, true), .bin .sub (.k 21) (.c (.i .i64 1)), [3, 4], 0⟩,
    ⟨some 23, some (18, true), .ia 2 none (.k 20) (.k 22), [3], 0⟩,
    ⟨some 24, some (18, true), .ld true 2 .cp (.k 23), [3], 0⟩,
    ⟨some 25, some (18, true), .call n_pile_Item_Cmp [.k 19, .k 24], [], 0⟩,
    ⟨some 26, some (18, true), .bin .lss (.k 25) (.c (.i .i64 0)), [], 0⟩,
    ⟨some 27, none, .pick (.t 18) (.k 26) (.c (.b false)), [], 0⟩] true [3, 5, 6, 8, 9, 10, 27] [5])
  (.cond 27 .skip
  (.exit 2)))
  (.blk 3 (.reg [] [⟨some 28, none, .mv (.k 6), [], 0⟩,
    ⟨some 29, none, .bin .sub (.k 28) (.c (.i .i64 1)), [], 0⟩,
    ⟨some 6, none, .mv (.k 29), [], 0⟩] false [3, 5, 6, 8, 9, 10] [5])))))
  (.reg [] [⟨some 30, none, .mv (.t 3), [], 0⟩,
    ⟨some 31, none, .mv (.t 6), [0], 0⟩,
    ⟨some 32, none, .mv (.t 6), [0, 1], 0⟩,
    ⟨some 33, none, .sl 2 (.k 30) none (some (.k 31)) (some (.k 32)), [], 0⟩,
    ⟨some 34, none, .ld true 2 .cp (.k 5), [0, 1, 2, 3], 0⟩,
    ⟨some 35, none, .bs 2 1 (.a ([.f .f64 0, .i .i64 0])) [(0, .k 34)], [0, 1, 2, 3], 1⟩,
    ⟨some 36, none, .mv (.t 3), [0, 1, 2, 3, 4, 5], 0⟩,
    ⟨some 37, none, .mv (.t 6), [0, 1, 2, 3, 4, 5, 6], 0⟩,
    ⟨some 38, none, .sl 2 (.k 36) (some (.k 37)) none none, [0, 1, 2, 3, 4, 5], 0⟩,
    ⟨some 39, none, .app 2 16 (.k 35) (.k 38), [0, 1, 2, 3], 1⟩,
    ⟨some 40, none, .app 2 16 (.k 33) (.k 39), [], 1⟩,
    ⟨some 3, none, .mv (.k 40), [], 0⟩] true [3, 8, 9, 10] [])))))
  (.reg [] [⟨some 41, none, .bin .add (.k 10) (.c (.i .i64 1)), [], 0⟩,
    ⟨some 10, none, .mv (.k 41), [], 0⟩] false [3, 8, 9, 10] [])))))))
  (.seq (.reg [] [⟨some 42, none, .mv (.k 3), [], 0⟩,
    ⟨some 2, none, .mv (.k 42), [], 0⟩] false [2] [])
  .ret))))⟩

def F_op_Legal : F := ⟨2, [.inl 4],
  (.seq (.reg [] [⟨some 4, none, .mv (.c (.i .i64 0)), [], 0⟩] false [0, 1] [])
  (.seq (.blk 0 (.seq (.reg [] [⟨some 6, none, .mv (.t 0), [], 0⟩,
    ⟨some 7, none, .bin .lss (.k 6) (.c (.i .i64 1)), [], 0⟩,
    ⟨some 8, none, .mv (.k 7), [], 0⟩,
    ⟨some 9, some (8, false), .mv (.t 0), [], 0⟩,
    ⟨some 10, some (8, false), .bin .gtr (.k 9) (.c (.i .i64 4)), [], 0⟩,
    ⟨some 11, none, .pick (.k 8) (.c (.b true)) (.k 10), [], 0⟩,
    ⟨some 5, none, .mv (.k 11), [], 0⟩] false [0, 1, 5] [])
  (.cond 5 (.seq (.reg [] [⟨some 4, none, .mv (.c (.i .i64 6)), [], 0⟩] false [4] [])
  .ret)
  (.seq (.reg [] [⟨some 13, none, .mv (.t 1), [], 0⟩,
    ⟨some 14, none, .bin .lss (.k 13) (.c (.i .i64 1)), [], 0⟩,
    ⟨some 15, none, .mv (.k 14), [], 0⟩,
    ⟨some 16, some (15, false), .mv (.t 1), [], 0⟩,
    ⟨some 17, some (15, false), .bin .gtr (.k 16) (.c (.i .i64 16)), [], 0⟩,
    ⟨some 18, none, .pick (.k 15) (.c (.b true)) (.k 17), [], 0⟩,
    ⟨some 19, none, .mv (.k 18), [], 0⟩,
    ⟨some 20, some (19, false), .mv (.k 0), [], 0⟩,
    ⟨some 21, some (19, false), .bin .eql (.k 20) (.c (.i .i64 4)), [], 0⟩,
    ⟨some 22, some (19, false), .mv (.k 21), [], 0⟩,
    ⟨some 23, some (22, true), .mv (.t 1), [], 0⟩,
    ⟨some 24, some (22, true), .mv (.k 1), [], 0⟩,
    ⟨some 25, some (22, true), .bin .sub (.k 24) (.c (.i .i64 1)), [], 0⟩,
    ⟨some 26, some (22, true), .bin .and (.k 23) (.k 25), [], 0⟩,
    ⟨some 27, some (22, true), .bin .neq (.k 26) (.c (.i .i64 0)), [], 0⟩,
    ⟨some 28, some (19, false), .pick (.k 22) (.k 27) (.c (.b false)), [], 0⟩,
    ⟨some 29, none, .pick (.k 19) (.c (.b true)) (.k 28), [], 0⟩,
    ⟨some 12, none, .mv (.k 29), [], 0⟩] false [12] [])
  (.cond 12 (.seq (.reg [] [⟨some 4, none, .mv (.c (.i .i64 5)), [], 0⟩] false [4] [])
  .ret)
  .skip)))))
  (.seq (.reg [] [⟨some 4, none, .mv (.c (.i .i64 0)), [], 0⟩] false [4] [])
  .ret)))⟩

def F_image_order : F := ⟨2, [.inl 4],
  (.seq (.reg [.zz 1] [⟨some 4, none, .mv (.c (.i .i64 0)), [], 0⟩] false [0, 1] [])
  (.seq (.seq (.reg [] [⟨some 6, none, .mv (.t 0), [], 0⟩,
    ⟨some 7, none, .bin .eql (.k 6) (.c (.i .i64 1)), [], 0⟩,
    ⟨some 8, none, .mv (.k 7), [], 0⟩,
    ⟨some 9, some (8, true), .mv (.t 1), [], 0⟩,
    ⟨some 10, some (8, true), .len false (.k 9), [], 0⟩,
    ⟨some 11, some (8, true), .bin .gtr (.k 10) (.c (.i .i64 62)), [], 0⟩,
    ⟨some 12, none, .pick (.k 8) (.k 11) (.c (.b false)), [], 0⟩] false [0, 1, 12] [])
  (.cond 12 (.seq (.reg [] [⟨some 4, none, .mv (.c (.i .i64 3)), [], 0⟩] false [4] [])
  .ret)
  .skip))
  (.seq (.seq (.reg [] [⟨some 5, none, .mv (.c (.i .i64 1)), [], 0⟩] false [0, 1, 5] [])
  (.blk 0 (.loop (.seq (.seq (.reg [] [⟨some 13, none, .mv (.t 0), [], 0⟩,
    ⟨some 14, none, .bin .eql (.k 13) (.c (.i .i64 1)), [], 0⟩,
    ⟨some 15, none, .mv (.k 14), [], 0⟩,
    ⟨some 16, some (15, true), .mv (.t 5), [], 0⟩,
    ⟨some 17, some (15, true), .mv (.t 1), [], 0⟩,
    ⟨some 18, some (15, true), .len false (.k 17), [], 0⟩,
    ⟨some 19, some (15, true), .bin .lss (.k 16) (.k 18), [], 0⟩,
    ⟨some 20, none, .pick (.k 15) (.k 19) (.c (.b false)), [], 0⟩] false [0, 1, 5, 20] [])
  (.cond 20 .skip
  (.exit 0)))
  (.seq (.blk 1 (.seq (.reg [] [⟨some 23, none, .mv (.t 1), [], 0⟩,
    ⟨some 24, none, .mv (.t 5), [0], 0⟩,
    ⟨some 25, none, .ia 2 none (.k 23) (.k 24), [], 0⟩,
    ⟨some 26, none, .ld true 2 .cp (.k 25), [], 0⟩,
    ⟨some 27, none, .mv (.t 1), [0, 1, 2, 3], 0⟩,
    ⟨some 28, none, .mv (.t 5), [0, 1, 2, 3, 4], 0⟩,
    ⟨some 29, none, .bin .sub (.k 28) (.c (.i .i64 1)), [0, 1, 2, 3, 4], 0⟩,
    ⟨some 30, none, .ia 2 none (.k 27) (.k 29), [0, 1, 2, 3], 0⟩,
    ⟨some 31, none, .ld true 2 .cp (.k 30), [0, 1, 2, 3], 0⟩,
    ⟨some 32, none, .call n_pile_Item_Cmp [.k 26, .k 31], [], 0⟩,
    ⟨some 33, none, .bin .lss (.k 32) (.c (.i .i64 0)), [], 0⟩] true [0, 1, 5, 33] [])
  (.cond 33 (.seq (.reg [] [⟨some 4, none, .mv (.c (.i .i64 14)), [], 0⟩] false [4] [])
  .ret)
  .skip)))
  (.reg [] [⟨some 21, none, .mv (.k 5), [], 0⟩,
    ⟨some 22, none, .bin .add (.k 21) (.c (.i .i64 1)), [], 0⟩,
    ⟨some 5, none, .mv (.k 22), [], 0⟩] false [0, 1, 5] []))))))
  (.seq (.reg [] [⟨some 4, none, .mv (.c (.i .i64 0)), [], 0⟩] false [4] [])
  .ret))))⟩

def F_c_ref06_Legal : F := ⟨2, [.inl 4],
  (.seq (.reg [] [⟨some 4, none, .mv (.c (.i .i64 0)), [], 0⟩] false [0, 1] [])
  (.seq (.seq (.reg [] [⟨some 5, none, .mv (.t 0), [], 0⟩,
    ⟨some 6, none, .bin .lss (.k 5) (.c (.i .i64 1)), [], 0⟩,
    ⟨some 7, none, .mv (.k 6), [], 0⟩,
    ⟨some 8, some (7, false), .mv (.t 0), [], 0⟩,
    ⟨some 9, some (7, false), .bin .gtr (.k 8) (.c (.i .i64 4)), [], 0⟩,
    ⟨some 10, none, .pick (.k 7) (.c (.b true)) (.k 9), [], 0⟩] false [0, 1, 10] [])
  (.cond 10 (.seq (.reg [] [⟨some 4, none, .mv (.c (.i .i64 6)), [], 0⟩] false [4] [])
  .ret)
  .skip))
  (.seq (.seq (.reg [] [⟨some 11, none, .mv (.t 1), [], 0⟩,
    ⟨some 12, none, .bin .lss (.k 11) (.c (.i .i64 1)), [], 0⟩,
    ⟨some 13, none, .mv (.k 12), [], 0⟩,
    ⟨some 14, some (13, false), .mv (.t 1), [], 0⟩,
    ⟨some 15, some (13, false), .bin .gtr (.k 14) (.c (.i .i64 16)), [], 0⟩,
    ⟨some 16, none, .pick (.k 13) (.c (.b true)) (.k 15), [], 0⟩] false [0, 1, 16] [])
  (.cond 16 (.seq (.reg [] [⟨some 4, none, .mv (.c (.i .i64 5)), [], 0⟩] false [4] [])
  .ret)
  .skip))
  (.seq (.seq (.reg [] [⟨some 17, none, .mv (.k 0), [], 0⟩,
    ⟨some 18, none, .bin .eql (.k 17) (.c (.i .i64 4)), [], 0⟩,
    ⟨some 19, none, .mv (.k 18), [], 0⟩,
    ⟨some 20, some (19, true), .mv (.t 1), [], 0⟩,
    ⟨some 21, some (19, true), .bin .neq (.k 20) (.c (.i .i64 1)), [], 0⟩,
    ⟨some 22, none, .pick (.k 19) (.k 21) (.c (.b false)), [], 0⟩,
    ⟨some 23, none, .mv (.k 22), [], 0⟩,
    ⟨some 24, some (23, true), .mv (.t 1), [], 0⟩,
    ⟨some 25, some (23, true), .bin .neq (.k 24) (.c (.i .i64 2)), [], 0⟩,
    ⟨some 26, none, .pick (.k 23) (.k 25) (.c (.b false)), [], 0⟩,
    ⟨some 27, none, .mv (.k 26), [], 0⟩,
    ⟨some 28, some (27, true), .mv (.t 1), [], 0⟩,
    ⟨some 29, some (27, true), .bin .neq (.k 28) (.c (.i .i64 4)), [], 0⟩,
    ⟨some 30, none, .pick (.k 27) (.k 29) (.c (.b false)), [], 0⟩,
    ⟨some 31, none, .mv (.k 30), [], 0⟩,
    ⟨some 32, some (31, true), .mv (.t 1), [], 0⟩,
    ⟨some 33, some (31, true), .bin .neq (.k 32) (.c (.i .i64 8)), [], 0⟩,
    ⟨some 34, none, .pick (.k 31) (.k 33) (.c (.b false)), [], 0⟩,
    ⟨some 35, none, .mv (.k 34), [], 0⟩,
    ⟨some 36, some (35, true), .mv (.k 1), [], 0⟩,
    ⟨some 37, some (35, true), .bin .neq (.k 36) (.c (.i .i64 16)), [], 0⟩,
    ⟨some 38, none, .pick (.k 35) (.k 37) (.c (.b false)), [], 0⟩] false [38] [])
  (.cond 38 (.seq (.reg [] [⟨some 4, none, .mv (.c (.i .i64 5)), [], 0⟩] false [4] [])
  .ret)
  .skip))
  (.seq (.reg [] [⟨some 4, none, .mv (.c (.i .i64 0)), [], 0⟩] false [4] [])
  .ret)))))⟩

def F_c_ref04_Cmp : F := ⟨2, [.inl 4],
  (.seq (.reg [] [⟨some 2, none, .bx (.k 0), [], 0⟩,
    ⟨some 3, none, .bx (.k 1), [], 0⟩,
    ⟨some 4, none, .mv (.c (.i .i64 0)), [], 0⟩] false [2, 3] [2, 3])
  (.seq (.reg [] [⟨some 6, none, .fa 0 (.t 2), [], 0⟩,
    ⟨some 7, none, .ld false 1 .cp (.k 6), [], 0⟩,
    ⟨some 8, none, .fa 0 (.t 3), [], 0⟩,
    ⟨some 9, none, .ld false 1 .cp (.k 8), [], 0⟩,
    ⟨some 10, none, .call n_c_ref03_Cmp [.k 7, .k 9], [], 0⟩,
    ⟨some 5, none, .mv (.k 10), [], 0⟩] false [2, 3, 5] [2, 3])
  (.seq (.seq (.reg [] [⟨some 11, none, .mv (.t 5), [], 0⟩,
    ⟨some 12, none, .bin .eql (.k 11) (.c (.i .i64 0)), [], 0⟩,
    ⟨some 13, none, .mv (.k 12), [], 0⟩,
    ⟨some 14, some (13, true), .fa 1 (.t 2), [], 0⟩,
    ⟨some 15, some (13, true), .ld false 1 .cp (.k 14), [], 0⟩,
    ⟨some 16, some (13, true), .fa 1 (.t 3), [], 0⟩,
    ⟨some 17, some (13, true), .ld false 1 .cp (.k 16), [], 0⟩,
    ⟨some 18, some (13, true), .bin .lss (.k 15) (.k 17), [], 0⟩,
    ⟨some 19, none, .pick (.k 13) (.k 18) (.c (.b false)), [], 0⟩] false [2, 3, 5, 19] [2, 3])
  (.cond 19 (.reg [] [⟨some 5, none, .mv (.c (.i .i64 (-1))), [], 0⟩] false [2, 3, 5] [2, 3])
  .skip))
  (.seq (.seq (.reg [] [⟨some 20, none, .mv (.t 5), [], 0⟩,
    ⟨some 21, none, .bin .eql (.k 20) (.c (.i .i64 0)), [], 0⟩,
    ⟨some 22, none, .mv (.k 21), [], 0⟩,
    ⟨some 23, some (22, true), .fa 1 (.k 2), [], 0⟩,
    ⟨some 24, some (22, true), .ld false 1 .cp (.k 23), [], 0⟩,
    ⟨some 25, some (22, true), .fa 1 (.k 3), [], 0⟩,
    ⟨some 26, some (22, true), .ld false 1 .cp (.k 25), [], 0⟩,
    ⟨some 27, some (22, true), .bin .gtr (.k 24) (.k 26), [], 0⟩,
    ⟨some 28, none, .pick (.k 22) (.k 27) (.c (.b false)), [], 0⟩] false [5, 28] [])
  (.cond 28 (.reg [] [⟨some 5, none, .mv (.c (.i .i64 1)), [], 0⟩] false [5] [])
  .skip))
  (.seq (.reg [] [⟨some 29, none, .mv (.k 5), [], 0⟩,
    ⟨some 4, none, .mv (.k 29), [], 0⟩] false [4] [])
  .ret)))))⟩

def F_c_law04_Bits : F := ⟨1, [.inl 2],
  (.seq (.reg [] [⟨some 1, none, .bx (.k 0), [], 0⟩,
    ⟨some 2, none, .mv (.c (.i .u64 0)), [], 0⟩] false [1] [1])
  (.seq (.reg [] [⟨some 3, none, .fa 0 (.k 1), [], 0⟩,
    ⟨some 4, none, .ld false 1 .cp (.k 3), [], 0⟩,
    ⟨some 5, none, .bits (.k 4), [], 0⟩,
    ⟨some 6, none, .call n_c_ref03_Bits [.k 5], [], 0⟩,
    ⟨some 2, none, .mv (.k 6), [], 0⟩] false [2] [])
  .ret))⟩

def F_octet_Of : F := ⟨1, [.inl 2],
  (.seq (.reg [] [⟨some 2, none, .mv (.c (.nilp)), [], 0⟩] false [0] [])
  (.seq (.reg [] [⟨some 3, none, .mv (.k 0), [], 0⟩,
    ⟨some 4, none, .bd ([.s ⟨#[]⟩, .i .i64 0]) [(0, 1, .k 3)], [], 0⟩,
    ⟨some 5, none, .bg (.k 4), [], 0⟩,
    ⟨some 2, none, .mv (.k 5), [], 0⟩] false [2] [])
  .ret))⟩

def F_octet_In_Num : F := ⟨2, [.inl 4],
  (.seq (.reg [] [⟨some 4, none, .mv (.c (.i .u64 0)), [], 0⟩] false [0, 1] [])
  (.seq (.reg [] [⟨some 5, none, .mv (.c (.i .u64 0)), [], 0⟩,
    ⟨some 6, none, .mv (.c (.i .i64 0)), [], 0⟩] false [0, 1, 5, 6] [])
  (.seq (.seq (.reg [] [⟨some 7, none, .mv (.c (.i .i64 0)), [], 0⟩] false [0, 1, 5, 6, 7] [])
  (.blk 0 (.loop (.seq (.blk 1 (.seq (.reg [] [⟨some 11, none, .mv (.t 0), [], 0⟩,
    ⟨some 12, none, .call n_octet_In_Byte [.k 11], [], 0⟩,
    ⟨some 8, none, .mv (.k 12), [], 0⟩] false [0, 1, 5, 6, 7, 8] [])
  (.seq (.seq (.reg [] [⟨some 13, none, .mv (.t 0), [], 0⟩,
    ⟨some 14, none, .nc (.k 13), [], 0⟩,
    ⟨some 15, none, .fa 1 (.k 14), [], 0⟩,
    ⟨some 16, none, .ld false 1 .cp (.k 15), [], 0⟩,
    ⟨some 17, none, .bin .neq (.k 16) (.c (.i .i64 0)), [], 0⟩] false [0, 1, 5, 6, 7, 8, 17] [])
  (.cond 17 (.seq (.reg [] [⟨some 4, none, .mv (.c (.i .u64 0)), [], 0⟩] false [4] [])
  .ret)
  .skip))
  (.seq (.reg [] [⟨some 18, none, .mv (.k 5), [], 0⟩,
    ⟨some 19, none, .mv (.t 8), [], 0⟩,
    ⟨some 20, none, .bin .and (.k 19) (.c (.i .u8 127)), [], 0⟩,
    ⟨some 21, none, .cv (.int .u64) (.k 20), [], 0⟩,
    ⟨some 22, none, .mv (.t 7), [], 0⟩,
    ⟨some 23, none, .bin .mul (.c (.i .i64 7)) (.k 22), [], 0⟩,
    ⟨some 24, none, .bin .shl (.k 21) (.k 23), [], 0⟩,
    ⟨some 25, none, .bin .or (.k 18) (.k 24), [], 0⟩,
    ⟨some 5, none, .mv (.k 25), [], 0⟩] false [0, 1, 5, 6, 7, 8] [])
  (.seq (.seq (.reg [] [⟨some 26, none, .mv (.t 7), [], 0⟩,
    ⟨some 27, none, .bin .eql (.k 26) (.c (.i .i64 9)), [], 0⟩,
    ⟨some 28, none, .mv (.k 27), [], 0⟩,
    ⟨some 29, some (28, true), .mv (.t 8), [], 0⟩,
    ⟨some 30, some (28, true), .bin .gtr (.k 29) (.c (.i .u8 1)), [], 0⟩,
    ⟨some 31, none, .pick (.k 28) (.k 30) (.c (.b false)), [], 0⟩] false [0, 1, 5, 6, 7, 8, 31] [])
  (.cond 31 (.seq (.reg [] [⟨some 6, none, .mv (.c (.i .i64 2)), [], 0⟩] false [0, 1, 5, 6] [])
  (.exit 0))
  .skip))
  (.seq (.reg [] [⟨some 32, none, .mv (.t 8), [], 0⟩,
    ⟨some 33, none, .bin .lss (.k 32) (.c (.i .u8 128)), [], 0⟩] false [0, 1, 5, 6, 7, 8, 33] [])
  (.cond 33 (.seq (.seq (.reg [] [⟨some 34, none, .mv (.k 8), [], 0⟩,
    ⟨some 35, none, .bin .eql (.k 34) (.c (.i .u8 0)), [], 0⟩,
    ⟨some 36, none, .mv (.k 35), [], 0⟩,
    ⟨some 37, some (36, true), .mv (.k 7), [], 0⟩,
    ⟨some 38, some (36, true), .bin .gtr (.k 37) (.c (.i .i64 0)), [], 0⟩,
    ⟨some 39, none, .pick (.k 36) (.k 38) (.c (.b false)), [], 0⟩] false [0, 1, 5, 6, 39] [])
  (.cond 39 (.reg [] [⟨some 6, none, .mv (.c (.i .i64 2)), [], 0⟩] false [0, 1, 5, 6] [])
  .skip))
  (.exit 0))
  .skip)))))))
  (.reg [] [⟨some 9, none, .mv (.k 7), [], 0⟩,
    ⟨some 10, none, .bin .add (.k 9) (.c (.i .i64 1)), [], 0⟩,
    ⟨some 7, none, .mv (.k 10), [], 0⟩] false [0, 1, 5, 6, 7] [])))))
  (.seq (.seq (.reg [] [⟨some 40, none, .mv (.t 6), [], 0⟩,
    ⟨some 41, none, .bin .eql (.k 40) (.c (.i .i64 0)), [], 0⟩,
    ⟨some 42, none, .mv (.k 41), [], 0⟩,
    ⟨some 43, some (42, true), .mv (.t 5), [], 0⟩,
    ⟨some 44, some (42, true), .mv (.k 1), [], 0⟩,
    ⟨some 45, some (42, true), .bin .gtr (.k 43) (.k 44), [], 0⟩,
    ⟨some 46, none, .pick (.k 42) (.k 45) (.c (.b false)), [], 0⟩] false [0, 5, 6, 46] [])
  (.cond 46 (.reg [] [⟨some 6, none, .mv (.c (.i .i64 3)), [], 0⟩] false [0, 5, 6] [])
  .skip))
  (.seq (.seq (.reg [] [⟨some 47, none, .mv (.t 6), [], 0⟩,
    ⟨some 48, none, .bin .neq (.k 47) (.c (.i .i64 0)), [], 0⟩] false [0, 5, 6, 48] [])
  (.cond 48 (.seq (.reg [] [⟨some 49, none, .mv (.k 0), [], 0⟩,
    ⟨some 50, none, .mv (.k 6), [], 0⟩,
    ⟨some 51, none, .call n_octet_In_fail [.k 49, .k 50], [], 0⟩] false [] [])
  (.seq (.reg [] [⟨some 4, none, .mv (.c (.i .u64 0)), [], 0⟩] false [4] [])
  .ret))
  .skip))
  (.seq (.reg [] [⟨some 52, none, .mv (.k 5), [], 0⟩,
    ⟨some 4, none, .mv (.k 52), [], 0⟩] false [4] [])
  .ret))))))⟩

def F_octet_In_End : F := ⟨1, [.inl 2],
  (.seq (.reg [] [⟨some 2, none, .mv (.c (.i .i64 0)), [], 0⟩] false [0] [])
  (.seq (.seq (.reg [] [⟨some 3, none, .mv (.t 0), [], 0⟩,
    ⟨some 4, none, .nc (.k 3), [], 0⟩,
    ⟨some 5, none, .fa 1 (.k 4), [], 0⟩,
    ⟨some 6, none, .ld false 1 .cp (.k 5), [], 0⟩,
    ⟨some 7, none, .bin .eql (.k 6) (.c (.i .i64 0)), [], 0⟩,
    ⟨some 8, none, .mv (.k 7), [], 0⟩,
    ⟨some 9, some (8, true), .mv (.t 0), [], 0⟩,
    ⟨some 10, some (8, true), .nc (.k 9), [], 0⟩,
    ⟨some 11, some (8, true), .fa 0 (.k 10), [], 0⟩,
    ⟨some 12, some (8, true), .ld false 1 .cp (.k 11), [], 0⟩,
    ⟨some 13, some (8, true), .len true (.k 12), [], 0⟩,
    ⟨some 14, some (8, true), .bin .gtr (.k 13) (.c (.i .i64 0)), [], 0⟩,
    ⟨some 15, none, .pick (.k 8) (.k 14) (.c (.b false)), [], 0⟩] false [0, 15] [])
  (.cond 15 (.reg [] [⟨some 16, none, .mv (.t 0), [], 0⟩,
    ⟨some 17, none, .call n_octet_In_fail [.k 16, .c (.i .i64 2)], [], 0⟩] false [0] [])
  .skip))
  (.seq (.reg [] [⟨some 18, none, .mv (.k 0), [], 0⟩,
    ⟨some 19, none, .nc (.k 18), [], 0⟩,
    ⟨some 20, none, .fa 1 (.k 19), [], 0⟩,
    ⟨some 21, none, .ld false 1 .cp (.k 20), [], 0⟩,
    ⟨some 2, none, .mv (.k 21), [], 0⟩] false [2] [])
  .ret)))⟩

def F_section_read : F := ⟨3, [.inl 6, .inl 7, .inl 8],
  (.seq (.reg [] [⟨some 6, none, .mv (.c (.l .o 1 [])), [], 0⟩,
    ⟨some 7, none, .mv (.c (.l .o 1 [])), [], 0⟩,
    ⟨some 8, none, .mv (.c (.i .i64 0)), [], 0⟩] false [0, 1, 2] [])
  (.seq (.reg [] [⟨some 16, none, .mv (.k 0), [], 0⟩,
    ⟨some 17, none, .mv (.k 1), [], 0⟩,
    ⟨some 18, none, .call n_image_Shape [.k 16, .k 17], [], 0⟩,
    ⟨some 15, none, .mv (.k 18), [], 0⟩,
    ⟨some 19, none, .ex false 0 15, [], 0⟩,
    ⟨some 20, none, .ex false 1 15, [], 0⟩,
    ⟨some 9, none, .mv (.k 19), [], 0⟩,
    ⟨some 10, none, .mv (.k 20), [], 0⟩] false [2, 9, 10] [])
  (.seq (.reg [] [⟨some 11, none, .mv (.c (.l .o 1 [])), [], 0⟩] false [2, 9, 10, 11] [])
  (.seq (.reg [] [⟨some 12, none, .mv (.c (.l .o 1 [])), [], 0⟩] false [2, 9, 10, 11, 12] [])
  (.seq (.seq (.reg [] [⟨some 21, none, .mv (.k 9), [], 0⟩,
    ⟨some 22, none, .mv (.c (.i .i64 0)), [], 0⟩] false [2, 10, 11, 12, 21, 22] [])
  (.blk 0 (.loop (.seq (.reg [] [⟨some 23, none, .bin .lss (.t 22) (.t 21), [], 0⟩] false [2, 10, 11, 12, 21, 22, 23] [])
  (.seq (.cond 23 .skip
  (.exit 0))
  (.seq (.blk 1 (.seq (.reg [] [⟨some 25, none, .mv (.t 2), [], 0⟩,
    ⟨some 26, none, .call n_section_take [.k 25], [], 0⟩,
    ⟨some 24, none, .mv (.k 26), [], 0⟩,
    ⟨some 27, none, .ex true 0 24, [], 0⟩,
    ⟨some 28, none, .ex false 1 24, [], 0⟩,
    ⟨some 13, none, .mv (.k 27), [], 0⟩,
    ⟨some 14, none, .mv (.k 28), [], 0⟩] false [2, 10, 11, 12, 13, 14, 21, 22] [])
  (.seq (.seq (.reg [] [⟨some 29, none, .mv (.t 14), [], 0⟩,
    ⟨some 30, none, .bin .neq (.k 29) (.c (.i .i64 0)), [], 0⟩] false [2, 10, 11, 12, 13, 14, 21, 22, 30] [])
  (.cond 30 (.seq (.reg [] [⟨some 31, none, .mv (.k 14), [], 0⟩,
    ⟨some 6, none, .mv (.c (.l .o 1 [])), [], 0⟩,
    ⟨some 7, none, .mv (.c (.l .o 1 [])), [], 0⟩,
    ⟨some 8, none, .mv (.k 31), [], 0⟩] false [6, 7, 8] [])
  .ret)
  .skip))
  (.reg [] [⟨some 32, none, .mv (.k 11), [], 0⟩,
    ⟨some 33, none, .mv (.k 13), [], 0⟩,
    ⟨some 34, none, .bs 1 1 (.l .o 2 []) [(0, .k 33)], [], 0⟩,
    ⟨some 35, none, .app 1 24 (.k 32) (.k 34), [], 1⟩,
    ⟨some 11, none, .mv (.k 35), [], 0⟩] false [2, 10, 11, 12, 21, 22] []))))
  (.reg [] [⟨some 36, none, .bin .add (.k 22) (.c (.i .i64 1)), [], 0⟩,
    ⟨some 22, none, .mv (.k 36), [], 0⟩] false [2, 10, 11, 12, 21, 22] [])))))))
  (.seq (.seq (.reg [] [⟨some 37, none, .mv (.k 10), [], 0⟩,
    ⟨some 38, none, .mv (.c (.i .i64 0)), [], 0⟩] false [2, 11, 12, 37, 38] [])
  (.blk 2 (.loop (.seq (.reg [] [⟨some 39, none, .bin .lss (.t 38) (.t 37), [], 0⟩] false [2, 11, 12, 37, 38, 39] [])
  (.seq (.cond 39 .skip
  (.exit 2))
  (.seq (.blk 3 (.reg [] [⟨some 40, none, .mv (.k 12), [], 0⟩,
    ⟨some 41, none, .mv (.t 2), [], 0⟩,
    ⟨some 42, none, .call n_octet_In_Num [.k 41, .c (.i .u64 1125899906842624)], [], 0⟩,
    ⟨some 43, none, .cv (.int .i64) (.k 42), [], 0⟩,
    ⟨some 44, none, .bs 1 1 (.i .i64 0) [(0, .k 43)], [], 0⟩,
    ⟨some 45, none, .app 1 8 (.k 40) (.k 44), [], 1⟩,
    ⟨some 12, none, .mv (.k 45), [], 0⟩] false [2, 11, 12, 37, 38] []))
  (.reg [] [⟨some 46, none, .bin .add (.k 38) (.c (.i .i64 1)), [], 0⟩,
    ⟨some 38, none, .mv (.k 46), [], 0⟩] false [2, 11, 12, 37, 38] [])))))))
  (.seq (.reg [] [⟨some 47, none, .mv (.k 11), [], 0⟩,
    ⟨some 48, none, .mv (.k 12), [], 0⟩,
    ⟨some 49, none, .mv (.k 2), [], 0⟩,
    ⟨some 50, none, .call n_octet_In_End [.k 49], [], 0⟩,
    ⟨some 6, none, .mv (.k 47), [], 0⟩,
    ⟨some 7, none, .mv (.k 48), [], 0⟩,
    ⟨some 8, none, .mv (.k 50), [], 0⟩] false [6, 7, 8] [])
  .ret)))))))⟩

def F_c_ref01_Number : F := ⟨2, [.inr (4, true, 2), .inl 5],
  (.seq (.reg [] [⟨some 2, none, .bx (.k 0), [], 0⟩,
    ⟨some 4, none, .al ([.s ⟨#[]⟩, .i .i64 0]), [], 0⟩,
    ⟨some 5, none, .mv (.c (.i .u64 0)), [], 0⟩] false [1, 2, 4] [2, 4])
  (.seq (.seq (.reg [] [⟨some 9, none, .fa 1 (.t 2), [], 0⟩,
    ⟨some 10, none, .ld false 1 .cp (.k 9), [], 0⟩,
    ⟨some 11, none, .bin .neq (.k 10) (.c (.i .i64 0)), [], 0⟩] false [1, 2, 4, 11] [2, 4])
  (.cond 11 (.seq (.reg [] [⟨some 12, none, .ld true 2 .cp (.k 2), [], 0⟩,
    ⟨none, none, .st 2 (.t 4) (.k 12), [], 0⟩,
    ⟨some 5, none, .mv (.c (.i .u64 0)), [], 0⟩] false [4, 5] [4])
  .ret)
  .skip))
  (.seq (.reg [] [⟨some 6, none, .mv (.c (.i .i64 0)), [], 0⟩] false [1, 2, 4, 6] [2, 4])
  (.seq (.blk 0 (.loop (.seq (.seq (.reg [] [⟨some 13, none, .mv (.t 6), [], 0⟩,
    ⟨some 14, none, .fa 0 (.t 2), [], 0⟩,
    ⟨some 15, none, .ld false 1 .cp (.k 14), [], 0⟩,
    ⟨some 16, none, .len true (.k 15), [], 0⟩,
    ⟨some 17, none, .bin .lss (.k 13) (.k 16), [], 0⟩,
    ⟨some 18, none, .mv (.k 17), [], 0⟩,
    ⟨some 19, some (18, true), .mv (.t 6), [], 0⟩,
    ⟨some 20, some (18, true), .bin .lss (.k 19) (.c (.i .i64 9)), [], 0⟩,
    ⟨some 21, none, .pick (.k 18) (.k 20) (.c (.b false)), [], 0⟩,
    ⟨some 22, none, .mv (.k 21), [], 0⟩,
    ⟨some 23, some (22, true), .fa 0 (.t 2), [], 0⟩,
    ⟨some 24, some (22, true), .ld false 1 .cp (.k 23), [], 0⟩,
    ⟨some 25, some (22, true), .mv (.t 6), [], 0⟩,
    ⟨some 26, some (22, true), .ixs (.k 24) (.k 25), [], 0⟩,
    ⟨some 27, some (22, true), .bin .geq (.k 26) (.c (.i .u8 128)), [], 0⟩,
    ⟨some 28, none, .pick (.k 22) (.k 27) (.c (.b false)), [], 0⟩] false [1, 2, 4, 6, 28] [2, 4])
  (.cond 28 .skip
  (.exit 0)))
  (.blk 1 (.reg [] [⟨some 29, none, .mv (.k 6), [], 0⟩,
    ⟨some 30, none, .bin .add (.k 29) (.c (.i .i64 1)), [], 0⟩,
    ⟨some 6, none, .mv (.k 30), [], 0⟩] false [1, 2, 4, 6] [2, 4])))))
  (.seq (.seq (.reg [] [⟨some 31, none, .mv (.t 6), [], 0⟩,
    ⟨some 32, none, .fa 0 (.t 2), [], 0⟩,
    ⟨some 33, none, .ld false 1 .cp (.k 32), [], 0⟩,
    ⟨some 34, none, .len true (.k 33), [], 0⟩,
    ⟨some 35, none, .bin .eql (.k 31) (.k 34), [], 0⟩] false [1, 2, 4, 6, 35] [2, 4])
  (.cond 35 (.seq (.reg [] [⟨some 36, none, .call n_c_ref01_fail [.c (.i .i64 1)], [], 0⟩,
    ⟨none, none, .st 2 (.t 4) (.k 36), [], 0⟩,
    ⟨some 5, none, .mv (.c (.i .u64 0)), [], 0⟩] false [4, 5] [4])
  .ret)
  .skip))
  (.seq (.seq (.reg [] [⟨some 37, none, .mv (.t 6), [], 0⟩,
    ⟨some 38, none, .bin .eql (.k 37) (.c (.i .i64 9)), [], 0⟩,
    ⟨some 39, none, .mv (.k 38), [], 0⟩,
    ⟨some 40, some (39, true), .fa 0 (.t 2), [], 0⟩,
    ⟨some 41, some (39, true), .ld false 1 .cp (.k 40), [], 0⟩,
    ⟨some 42, some (39, true), .ixs (.k 41) (.c (.i .i64 9)), [], 0⟩,
    ⟨some 43, some (39, true), .bin .gtr (.k 42) (.c (.i .u8 1)), [], 0⟩,
    ⟨some 44, none, .pick (.k 39) (.k 43) (.c (.b false)), [], 0⟩] false [1, 2, 4, 6, 44] [2, 4])
  (.cond 44 (.seq (.reg [] [⟨some 45, none, .call n_c_ref01_fail [.c (.i .i64 2)], [], 0⟩,
    ⟨none, none, .st 2 (.t 4) (.k 45), [], 0⟩,
    ⟨some 5, none, .mv (.c (.i .u64 0)), [], 0⟩] false [4, 5] [4])
  .ret)
  .skip))
  (.seq (.seq (.reg [] [⟨some 46, none, .mv (.t 6), [], 0⟩,
    ⟨some 47, none, .bin .gtr (.k 46) (.c (.i .i64 0)), [], 0⟩,
    ⟨some 48, none, .mv (.k 47), [], 0⟩,
    ⟨some 49, some (48, true), .fa 0 (.t 2), [], 0⟩,
    ⟨some 50, some (48, true), .ld false 1 .cp (.k 49), [], 0⟩,
    ⟨some 51, some (48, true), .mv (.t 6), [], 0⟩,
    ⟨some 52, some (48, true), .ixs (.k 50) (.k 51), [], 0⟩,
    ⟨some 53, some (48, true), .bin .eql (.k 52) (.c (.i .u8 0)), [], 0⟩,
    ⟨some 54, none, .pick (.k 48) (.k 53) (.c (.b false)), [], 0⟩] false [1, 2, 4, 6, 54] [2, 4])
  (.cond 54 (.seq (.reg [] [⟨some 55, none, .call n_c_ref01_fail [.c (.i .i64 2)], [], 0⟩,
    ⟨none, none, .st 2 (.t 4) (.k 55), [], 0⟩,
    ⟨some 5, none, .mv (.c (.i .u64 0)), [], 0⟩] false [4, 5] [4])
  .ret)
  .skip))
  (.seq (.reg [] [⟨some 7, none, .mv (.c (.i .u64 0)), [], 0⟩] false [1, 2, 4, 6, 7] [2, 4])
  (.seq (.seq (.reg [] [⟨some 56, none, .mv (.t 6), [], 0⟩,
    ⟨some 8, none, .mv (.k 56), [], 0⟩] false [1, 2, 4, 6, 7, 8] [2, 4])
  (.blk 2 (.loop (.seq (.seq (.reg [] [⟨some 57, none, .mv (.t 8), [], 0⟩,
    ⟨some 58, none, .bin .geq (.k 57) (.c (.i .i64 0)), [], 0⟩] false [1, 2, 4, 6, 7, 8, 58] [2, 4])
  (.cond 58 .skip
  (.exit 2)))
  (.seq (.blk 3 (.reg [] [⟨some 61, none, .mv (.k 7), [], 0⟩,
    ⟨some 62, none, .bin .mul (.k 61) (.c (.i .u64 128)), [], 0⟩,
    ⟨some 63, none, .fa 0 (.t 2), [], 0⟩,
    ⟨some 64, none, .ld false 1 .cp (.k 63), [], 0⟩,
    ⟨some 65, none, .mv (.t 8), [], 0⟩,
    ⟨some 66, none, .ixs (.k 64) (.k 65), [], 0⟩,
    ⟨some 67, none, .bin .rem (.k 66) (.c (.i .u8 128)), [], 0⟩,
    ⟨some 68, none, .cv (.int .u64) (.k 67), [], 0⟩,
    ⟨some 69, none, .bin .add (.k 62) (.k 68), [], 0⟩,
    ⟨some 7, none, .mv (.k 69), [], 0⟩] false [1, 2, 4, 6, 7, 8] [2, 4]))
  (.reg [] [⟨some 59, none, .mv (.k 8), [], 0⟩,
    ⟨some 60, none, .bin .sub (.k 59) (.c (.i .i64 1)), [], 0⟩,
    ⟨some 8, none, .mv (.k 60), [], 0⟩] false [1, 2, 4, 6, 7, 8] [2, 4]))))))
  (.seq (.seq (.reg [] [⟨some 70, none, .mv (.t 7), [], 0⟩,
    ⟨some 71, none, .mv (.k 1), [], 0⟩,
    ⟨some 72, none, .bin .gtr (.k 70) (.k 71), [], 0⟩] false [2, 4, 6, 7, 72] [2, 4])
  (.cond 72 (.seq (.reg [] [⟨some 73, none, .call n_c_ref01_fail [.c (.i .i64 3)], [], 0⟩,
    ⟨none, none, .st 2 (.t 4) (.k 73), [], 0⟩,
    ⟨some 5, none, .mv (.c (.i .u64 0)), [], 0⟩] false [4, 5] [4])
  .ret)
  .skip))
  (.seq (.reg [] [⟨some 74, none, .fa 0 (.k 2), [], 0⟩,
    ⟨some 75, none, .ld false 1 .cp (.k 74), [], 0⟩,
    ⟨some 76, none, .mv (.k 6), [], 0⟩,
    ⟨some 77, none, .bin .add (.k 76) (.c (.i .i64 1)), [], 0⟩,
    ⟨some 78, none, .ss (.k 75) (some (.k 77)) none, [], 0⟩,
    ⟨some 79, none, .bd ([.s ⟨#[]⟩, .i .i64 0]) [(0, 1, .k 78), (1, 1, .c (.i .i64 0))], [], 0⟩,
    ⟨some 80, none, .mv (.k 7), [], 0⟩,
    ⟨none, none, .st 2 (.t 4) (.k 79), [], 0⟩,
    ⟨some 5, none, .mv (.k 80), [], 0⟩] false [4, 5] [4])
  .ret)))))))))))⟩

def F_c_ref19_end : F := ⟨1, [.inr (2, true, 2)],
  (.seq (.reg [] [⟨some 1, none, .bx (.k 0), [], 0⟩,
    ⟨some 2, none, .al ([.s ⟨#[]⟩, .i .i64 0]), [], 0⟩] false [1, 2] [1, 2])
  (.seq (.seq (.reg [] [⟨some 3, none, .fa 1 (.t 1), [], 0⟩,
    ⟨some 4, none, .ld false 1 .cp (.k 3), [], 0⟩,
    ⟨some 5, none, .bin .eql (.k 4) (.c (.i .i64 0)), [], 0⟩,
    ⟨some 6, none, .mv (.k 5), [], 0⟩,
    ⟨some 7, some (6, true), .fa 0 (.t 1), [], 0⟩,
    ⟨some 8, some (6, true), .ld false 1 .cp (.k 7), [], 0⟩,
    ⟨some 9, some (6, true), .len true (.k 8), [], 0⟩,
    ⟨some 10, some (6, true), .bin .gtr (.k 9) (.c (.i .i64 0)), [], 0⟩,
    ⟨some 11, none, .pick (.k 6) (.k 10) (.c (.b false)), [], 0⟩] false [1, 2, 11] [1, 2])
  (.cond 11 (.seq (.reg [] [⟨some 12, none, .bd ([.s ⟨#[]⟩, .i .i64 0]) [(1, 1, .c (.i .i64 2))], [], 0⟩,
    ⟨none, none, .st 2 (.t 2) (.k 12), [], 0⟩] false [2] [2])
  .ret)
  .skip))
  (.seq (.reg [] [⟨some 13, none, .ld true 2 .cp (.k 1), [], 0⟩,
    ⟨none, none, .st 2 (.t 2) (.k 13), [], 0⟩] false [2] [2])
  .ret)))⟩

def F_c_ref19_items : F := ⟨1, [.inr (2, true, 2), .inl 3],
  (.seq (.reg [] [⟨some 1, none, .bx (.k 0), [], 0⟩,
    ⟨some 2, none, .al ([.s ⟨#[]⟩, .i .i64 0]), [], 0⟩,
    ⟨some 3, none, .mv (.c (.l .o 2 [])), [], 0⟩] false [1, 2] [1, 2])
  (.seq (.reg [] [⟨some 13, none, .bs 2 0 (.a ([.i .u64 0, .i .i64 0])) [], [], 1⟩,
    ⟨some 4, none, .mv (.k 13), [], 0⟩] false [1, 2, 4] [1, 2])
  (.seq (.reg [] [⟨some 15, none, .ld true 2 .cp (.t 1), [], 0⟩,
    ⟨some 16, none, .call n_c_ref01_Number [.k 15, .c (.i .u64 1000)], [], 0⟩,
    ⟨some 14, none, .mv (.k 16), [], 0⟩,
    ⟨some 17, none, .ex false 0 14, [], 0⟩,
    ⟨some 18, none, .ex false 1 14, [], 0⟩,
    ⟨none, none, .st 2 (.t 1) (.k 17), [], 0⟩,
    ⟨some 5, none, .mv (.k 18), [], 0⟩] false [1, 2, 4, 5] [1, 2])
  (.seq (.seq (.reg [] [⟨some 6, none, .mv (.c (.i .u64 0)), [], 0⟩] false [1, 2, 4, 5, 6] [1, 2])
  (.blk 0 (.loop (.seq (.seq (.reg [] [⟨some 19, none, .mv (.t 6), [], 0⟩,
    ⟨some 20, none, .mv (.t 5), [], 0⟩,
    ⟨some 21, none, .bin .lss (.k 19) (.k 20), [], 0⟩,
    ⟨some 22, none, .mv (.k 21), [], 0⟩,
    ⟨some 23, some (22, true), .fa 1 (.t 1), [], 0⟩,
    ⟨some 24, some (22, true), .ld false 1 .cp (.k 23), [], 0⟩,
    ⟨some 25, some (22, true), .bin .eql (.k 24) (.c (.i .i64 0)), [], 0⟩,
    ⟨some 26, none, .pick (.k 22) (.k 25) (.c (.b false)), [], 0⟩] false [1, 2, 4, 5, 6, 26] [1, 2])
  (.cond 26 .skip
  (.exit 0)))
  (.seq (.blk 1 (.seq (.reg [] [⟨some 30, none, .ld true 2 .cp (.t 1), [], 0⟩,
    ⟨some 31, none, .call n_c_ref01_Whole [.k 30, .c (.i .i64 8)], [], 0⟩,
    ⟨some 29, none, .mv (.k 31), [], 0⟩,
    ⟨some 32, none, .ex false 0 29, [], 0⟩,
    ⟨some 33, none, .ex false 1 29, [], 0⟩,
    ⟨some 7, none, .al ([.s ⟨#[]⟩, .i .i64 0]), [], 0⟩,
    ⟨none, none, .st 2 (.t 7) (.k 32), [], 0⟩,
    ⟨some 8, none, .mv (.k 33), [], 0⟩] false [1, 2, 4, 5, 6, 7, 8] [1, 2, 7])
  (.seq (.reg [] [⟨some 35, none, .ld true 2 .cp (.k 7), [], 0⟩,
    ⟨some 36, none, .call n_c_ref01_Signed [.k 35], [], 0⟩,
    ⟨some 34, none, .mv (.k 36), [], 0⟩,
    ⟨some 37, none, .ex false 0 34, [], 0⟩,
    ⟨some 38, none, .ex false 1 34, [], 0⟩,
    ⟨some 9, none, .al ([.s ⟨#[]⟩, .i .i64 0]), [], 0⟩,
    ⟨none, none, .st 2 (.t 9) (.k 37), [], 0⟩,
    ⟨some 10, none, .mv (.k 38), [], 0⟩] false [1, 2, 4, 5, 6, 8, 9, 10] [1, 2, 9])
  (.seq (.reg [] [⟨some 39, none, .ld true 2 .cp (.k 9), [], 0⟩,
    ⟨none, none, .st 2 (.t 1) (.k 39), [], 0⟩] false [1, 2, 4, 5, 6, 8, 10] [1, 2])
  (.seq (.reg [] [⟨some 41, none, .mv (.k 8), [], 0⟩,
    ⟨some 42, none, .call n_c_ref19_float [.k 41], [], 0⟩,
    ⟨some 40, none, .mv (.k 42), [], 0⟩,
    ⟨some 43, none, .ex false 0 40, [], 0⟩,
    ⟨some 44, none, .ex false 1 40, [], 0⟩,
    ⟨some 11, none, .mv (.k 43), [], 0⟩,
    ⟨some 12, none, .mv (.k 44), [], 0⟩] false [1, 2, 4, 5, 6, 10, 11, 12] [1, 2])
  (.seq (.seq (.reg [] [⟨some 45, none, .fa 1 (.t 1), [], 0⟩,
    ⟨some 46, none, .ld false 1 .cp (.k 45), [], 0⟩,
    ⟨some 47, none, .bin .eql (.k 46) (.c (.i .i64 0)), [], 0⟩,
    ⟨some 48, none, .mv (.k 47), [], 0⟩,
    ⟨some 49, some (48, true), .mv (.k 12), [], 0⟩,
    ⟨some 50, some (48, true), .un .not (.k 49), [], 0⟩,
    ⟨some 51, none, .pick (.k 48) (.k 50) (.c (.b false)), [], 0⟩] false [1, 2, 4, 5, 6, 10, 11, 51] [1, 2])
  (.cond 51 (.reg [] [⟨some 52, none, .bd ([.s ⟨#[]⟩, .i .i64 0]) [(1, 1, .c (.i .i64 2))], [], 0⟩,
    ⟨none, none, .st 2 (.t 1) (.k 52), [], 0⟩] false [1, 2, 4, 5, 6, 10, 11] [1, 2])
  .skip))
  (.reg [] [⟨some 53, none, .mv (.k 4), [], 0⟩,
    ⟨some 54, none, .mv (.k 11), [], 0⟩,
    ⟨some 55, none, .mv (.k 10), [], 0⟩,
    ⟨some 56, none, .bd ([.i .u64 0, .i .i64 0]) [(0, 1, .k 54), (1, 1, .k 55)], [], 0⟩,
    ⟨some 57, none, .bs 2 1 (.a ([.i .u64 0, .i .i64 0])) [(0, .k 56)], [], 0⟩,
    ⟨some 58, none, .app 2 16 (.k 53) (.k 57), [], 1⟩,
    ⟨some 4, none, .mv (.k 58), [], 0⟩] false [1, 2, 4, 5, 6] [1, 2])))))))
  (.reg [] [⟨some 27, none, .mv (.k 6), [], 0⟩,
    ⟨some 28, none, .bin .add (.k 27) (.c (.i .u64 1)), [], 0⟩,
    ⟨some 6, none, .mv (.k 28), [], 0⟩] false [1, 2, 4, 5, 6] [1, 2]))))))
  (.seq (.reg [] [⟨some 59, none, .ld true 2 .cp (.k 1), [], 0⟩,
    ⟨some 60, none, .mv (.k 4), [], 0⟩,
    ⟨none, none, .st 2 (.t 2) (.k 59), [], 0⟩,
    ⟨some 3, none, .mv (.k 60), [], 0⟩] false [2, 3] [2])
  .ret)))))⟩

def F_c_law04_Are : F := ⟨2, [.inl 4],
  (.seq (.reg [.zz 0, .zz 1] [⟨some 4, none, .mv (.c (.i .i64 0)), [], 0⟩] false [0, 1] [])
  (.seq (.seq (.reg [] [⟨some 6, none, .mv (.t 0), [], 0⟩,
    ⟨some 7, none, .len false (.k 6), [], 0⟩,
    ⟨some 8, none, .mv (.t 1), [], 0⟩,
    ⟨some 9, none, .len false (.k 8), [], 0⟩,
    ⟨some 10, none, .bin .neq (.k 7) (.k 9), [], 0⟩] false [0, 1, 10] [])
  (.cond 10 (.seq (.reg [] [⟨some 4, none, .mv (.c (.i .i64 (-1))), [], 0⟩] false [4] [])
  .ret)
  .skip))
  (.seq (.seq (.reg [] [⟨some 11, none, .mv (.t 1), [], 0⟩,
    ⟨some 12, none, .len false (.k 11), [], 0⟩,
    ⟨some 13, none, .mv (.c (.i .i64 0)), [], 0⟩] false [0, 1, 12, 13] [])
  (.blk 0 (.loop (.seq (.reg [] [⟨some 14, none, .bin .lss (.t 13) (.t 12), [], 0⟩] false [0, 1, 12, 13, 14] [])
  (.seq (.cond 14 .skip
  (.exit 0))
  (.seq (.blk 1 (.seq (.reg [] [⟨some 15, none, .mv (.t 13), [], 0⟩,
    ⟨some 5, none, .mv (.k 15), [], 0⟩] false [0, 1, 5, 12, 13] [])
  (.seq (.reg [] [⟨some 16, none, .mv (.t 0), [], 0⟩,
    ⟨some 17, none, .mv (.t 5), [0], 0⟩,
    ⟨some 18, none, .ia 2 none (.k 16) (.k 17), [], 0⟩,
    ⟨some 19, none, .ld true 2 .cp (.k 18), [], 0⟩,
    ⟨some 20, none, .mv (.t 1), [0, 1, 2, 3], 0⟩,
    ⟨some 21, none, .mv (.t 5), [0, 1, 2, 3, 4], 0⟩,
    ⟨some 22, none, .ia 2 none (.k 20) (.k 21), [0, 1, 2, 3], 0⟩,
    ⟨some 23, none, .ld true 2 .cp (.k 22), [0, 1, 2, 3], 0⟩,
    ⟨some 24, none, .call n_c_law04_Is [.k 19, .k 23], [], 0⟩,
    ⟨some 25, none, .bin .neq (.k 24) (.c (.i .i64 0)), [], 0⟩] true [0, 1, 12, 13, 25] [])
  (.cond 25 (.seq (.reg [] [⟨some 4, none, .mv (.c (.i .i64 (-1))), [], 0⟩] false [4] [])
  .ret)
  .skip))))
  (.reg [] [⟨some 26, none, .bin .add (.k 13) (.c (.i .i64 1)), [], 0⟩,
    ⟨some 13, none, .mv (.k 26), [], 0⟩] false [0, 1, 12, 13] [])))))))
  (.seq (.reg [] [⟨some 4, none, .mv (.c (.i .i64 0)), [], 0⟩] false [4] [])
  .ret))))⟩

def F_section_meta : F := ⟨1, [.inl 2],
  (.seq (.reg [.zz 0] [⟨some 1, none, .bx (.k 0), [], 0⟩,
    ⟨some 2, none, .mv (.c (.s ⟨#[]⟩)), [], 0⟩] false [1] [1])
  (.seq (.reg [] [⟨some 3, none, .fa 1 (.t 1), [], 0⟩,
    ⟨some 4, none, .ld false 1 .cp (.k 3), [], 0⟩,
    ⟨some 5, none, .cv (.int .u64) (.k 4), [], 0⟩,
    ⟨some 6, none, .call n_octet_Num [.c (.l .o 1 []), .k 5], [], 0⟩,
    ⟨some 7, none, .fa 2 (.t 1), [0, 1, 2, 3], 0⟩,
    ⟨some 8, none, .ld false 1 .cp (.k 7), [0, 1, 2, 3], 0⟩,
    ⟨some 9, none, .call n_octet_Num [.k 6, .k 8], [], 0⟩,
    ⟨some 10, none, .cv .str (.k 9), [], 0⟩,
    ⟨some 2, none, .mv (.k 10), [], 0⟩] true [2] [])
  .ret))⟩

def F_section_data : F := ⟨1, [.inl 2],
  (.seq (.reg [.zz 0] [⟨some 1, none, .bx (.k 0), [], 0⟩,
    ⟨some 2, none, .mv (.c (.s ⟨#[]⟩)), [], 0⟩] false [1] [1])
  (.seq (.reg [] [⟨some 3, none, .mv (.c (.l .o 1 [])), [], 0⟩] false [1, 3] [1])
  (.seq (.seq (.reg [] [⟨some 8, none, .fa 3 (.t 1), [], 0⟩,
    ⟨some 9, none, .ld false 1 .cp (.k 8), [], 0⟩,
    ⟨some 10, none, .len false (.t 9), [], 0⟩,
    ⟨some 11, none, .mv (.c (.i .i64 0)), [], 0⟩] false [1, 3, 9, 10, 11] [1])
  (.blk 0 (.loop (.seq (.reg [] [⟨some 12, none, .bin .lss (.t 11) (.t 10), [], 0⟩] false [1, 3, 9, 10, 11, 12] [1])
  (.seq (.cond 12 .skip
  (.exit 0))
  (.seq (.blk 1 (.seq (.reg [] [⟨some 13, none, .ia 1 none (.t 9) (.t 11), [], 0⟩,
    ⟨some 14, none, .ld false 1 .cp (.k 13), [], 0⟩,
    ⟨some 5, none, .mv (.k 14), [], 0⟩] false [1, 3, 5, 9, 10, 11] [1])
  (.reg [] [⟨some 15, none, .mv (.k 3), [], 0⟩,
    ⟨some 16, none, .mv (.k 5), [], 2⟩,
    ⟨some 17, none, .call n_section_Items [.k 15, .k 16], [], 0⟩,
    ⟨some 3, none, .mv (.k 17), [], 0⟩] false [1, 3, 9, 10, 11] [1])))
  (.reg [] [⟨some 18, none, .bin .add (.k 11) (.c (.i .i64 1)), [], 0⟩,
    ⟨some 11, none, .mv (.k 18), [], 0⟩] false [1, 3, 9, 10, 11] [1])))))))
  (.seq (.seq (.reg [] [⟨some 19, none, .fa 4 (.k 1), [], 0⟩,
    ⟨some 20, none, .ld false 1 .tk (.k 19), [], 0⟩,
    ⟨some 21, none, .len false (.t 20), [], 0⟩,
    ⟨some 22, none, .mv (.c (.i .i64 0)), [], 0⟩] false [3, 20, 21, 22] [])
  (.blk 2 (.loop (.seq (.reg [] [⟨some 23, none, .bin .lss (.t 22) (.t 21), [], 0⟩] false [3, 20, 21, 22, 23] [])
  (.seq (.cond 23 .skip
  (.exit 2))
  (.seq (.blk 3 (.seq (.reg [] [⟨some 24, none, .ia 1 none (.t 20) (.t 22), [], 0⟩,
    ⟨some 25, none, .ld false 1 .cp (.k 24), [], 0⟩,
    ⟨some 7, none, .mv (.k 25), [], 0⟩] false [3, 7, 20, 21, 22] [])
  (.reg [] [⟨some 26, none, .mv (.k 3), [], 0⟩,
    ⟨some 27, none, .mv (.k 7), [], 0⟩,
    ⟨some 28, none, .cv (.int .u64) (.k 27), [], 0⟩,
    ⟨some 29, none, .call n_octet_Num [.k 26, .k 28], [], 0⟩,
    ⟨some 3, none, .mv (.k 29), [], 0⟩] false [3, 20, 21, 22] [])))
  (.reg [] [⟨some 30, none, .bin .add (.k 22) (.c (.i .i64 1)), [], 0⟩,
    ⟨some 22, none, .mv (.k 30), [], 0⟩] false [3, 20, 21, 22] [])))))))
  (.seq (.reg [] [⟨some 31, none, .mv (.k 3), [], 0⟩,
    ⟨some 32, none, .cv .str (.k 31), [], 0⟩,
    ⟨some 2, none, .mv (.k 32), [], 0⟩] false [2] [])
  .ret)))))⟩

def F_pile_Sorted : F := ⟨1, [.inl 2],
  (.seq (.reg [.zz 0] [⟨some 2, none, .mv (.c (.l .o 2 [])), [], 0⟩] false [0] [])
  (.seq (.reg [] [⟨some 3, none, .mv (.k 0), [], 2⟩,
    ⟨some 4, none, .call n_pile_New [.k 3], [], 0⟩,
    ⟨some 5, none, .call n_pile_Pile_All [.k 4], [], 0⟩,
    ⟨some 2, none, .mv (.k 5), [], 0⟩] false [2] [])
  .ret))⟩

def F_c_ref04_With : F := ⟨2, [.inl 4],
  (.seq (.reg [.zz 0] [⟨some 3, none, .bx (.k 1), [], 0⟩,
    ⟨some 4, none, .mv (.c (.l .o 2 [])), [], 0⟩] false [0, 3] [3])
  (.seq (.reg [] [⟨some 9, none, .bs 2 0 (.a ([.i .u64 0, .i .i64 0])) [], [], 1⟩,
    ⟨some 5, none, .mv (.k 9), [], 0⟩] false [0, 3, 5] [3])
  (.seq (.reg [] [⟨some 6, none, .mv (.c (.b false)), [], 0⟩] false [0, 3, 5, 6] [3])
  (.seq (.seq (.reg [] [⟨some 10, none, .mv (.k 0), [], 0⟩,
    ⟨some 11, none, .len false (.t 10), [], 0⟩,
    ⟨some 12, none, .mv (.c (.i .i64 0)), [], 0⟩] false [3, 5, 6, 10, 11, 12] [3])
  (.blk 0 (.loop (.seq (.reg [] [⟨some 13, none, .bin .lss (.t 12) (.t 11), [], 0⟩] false [3, 5, 6, 10, 11, 12, 13] [3])
  (.seq (.cond 13 .skip
  (.exit 0))
  (.seq (.blk 1 (.seq (.reg [] [⟨some 14, none, .ia 2 none (.t 10) (.t 12), [], 0⟩,
    ⟨some 15, none, .ld true 2 .cp (.k 14), [], 0⟩,
    ⟨some 8, none, .al ([.i .u64 0, .i .i64 0]), [], 0⟩,
    ⟨none, none, .st 2 (.t 8) (.k 15), [], 0⟩] false [3, 5, 6, 8, 10, 11, 12] [3, 8])
  (.seq (.seq (.reg [] [⟨some 16, none, .mv (.t 6), [], 0⟩,
    ⟨some 17, none, .un .not (.k 16), [], 0⟩,
    ⟨some 18, none, .mv (.k 17), [], 0⟩,
    ⟨some 19, some (18, true), .ld true 2 .cp (.t 3), [], 0⟩,
    ⟨some 20, some (18, true), .ld true 2 .cp (.t 8), [], 0⟩,
    ⟨some 21, some (18, true), .call n_c_ref04_Cmp [.k 19, .k 20], [], 0⟩,
    ⟨some 22, some (18, true), .bin .lss (.k 21) (.c (.i .i64 0)), [], 0⟩,
    ⟨some 23, none, .pick (.k 18) (.k 22) (.c (.b false)), [], 0⟩] false [3, 5, 6, 8, 10, 11, 12, 23] [3, 8])
  (.cond 23 (.seq (.reg [] [⟨some 24, none, .mv (.k 5), [], 0⟩,
    ⟨some 25, none, .ld true 2 .cp (.t 3), [], 0⟩,
    ⟨some 26, none, .bs 2 1 (.a ([.i .u64 0, .i .i64 0])) [(0, .k 25)], [], 0⟩,
    ⟨some 27, none, .app 2 16 (.k 24) (.k 26), [], 1⟩,
    ⟨some 5, none, .mv (.k 27), [], 0⟩] false [3, 5, 8, 10, 11, 12] [3, 8])
  (.reg [] [⟨some 6, none, .mv (.c (.b true)), [], 0⟩] false [3, 5, 6, 8, 10, 11, 12] [3, 8]))
  .skip))
  (.reg [] [⟨some 28, none, .mv (.k 5), [], 0⟩,
    ⟨some 29, none, .ld true 2 .cp (.k 8), [], 0⟩,
    ⟨some 30, none, .bs 2 1 (.a ([.i .u64 0, .i .i64 0])) [(0, .k 29)], [], 0⟩,
    ⟨some 31, none, .app 2 16 (.k 28) (.k 30), [], 1⟩,
    ⟨some 5, none, .mv (.k 31), [], 0⟩] false [3, 5, 6, 10, 11, 12] [3]))))
  (.reg [] [⟨some 32, none, .bin .add (.k 12) (.c (.i .i64 1)), [], 0⟩,
    ⟨some 12, none, .mv (.k 32), [], 0⟩] false [3, 5, 6, 10, 11, 12] [3])))))))
  (.seq (.seq (.reg [] [⟨some 33, none, .mv (.k 6), [], 0⟩,
    ⟨some 34, none, .un .not (.k 33), [], 0⟩] false [3, 5, 34] [3])
  (.cond 34 (.reg [] [⟨some 35, none, .mv (.k 5), [], 0⟩,
    ⟨some 36, none, .ld true 2 .cp (.k 3), [], 0⟩,
    ⟨some 37, none, .bs 2 1 (.a ([.i .u64 0, .i .i64 0])) [(0, .k 36)], [], 0⟩,
    ⟨some 38, none, .app 2 16 (.k 35) (.k 37), [], 1⟩,
    ⟨some 5, none, .mv (.k 38), [], 0⟩] false [5] [])
  .skip))
  (.seq (.reg [] [⟨some 39, none, .mv (.k 5), [], 0⟩,
    ⟨some 4, none, .mv (.k 39), [], 0⟩] false [4] [])
  .ret))))))⟩

def F_slices_Equal_int64_int64 : F := ⟨2, [.inl 4],
  (.seq (.reg [.zz 0, .zz 1] [⟨some 4, none, .mv (.c (.b false)), [], 0⟩] false [0, 1] [])
  (.seq (.seq (.reg [] [⟨some 6, none, .mv (.t 0), [], 0⟩,
    ⟨some 7, none, .len false (.k 6), [], 0⟩,
    ⟨some 8, none, .mv (.t 1), [], 0⟩,
    ⟨some 9, none, .len false (.k 8), [], 0⟩,
    ⟨some 10, none, .bin .neq (.k 7) (.k 9), [], 0⟩] false [0, 1, 10] [])
  (.cond 10 (.seq (.reg [] [⟨some 4, none, .mv (.c (.b false)), [], 0⟩] false [4] [])
  .ret)
  .skip))
  (.seq (.seq (.reg [] [⟨some 11, none, .mv (.t 0), [], 0⟩,
    ⟨some 12, none, .len false (.k 11), [], 0⟩,
    ⟨some 13, none, .mv (.c (.i .i64 0)), [], 0⟩] false [0, 1, 12, 13] [])
  (.blk 0 (.loop (.seq (.reg [] [⟨some 14, none, .bin .lss (.t 13) (.t 12), [], 0⟩] false [0, 1, 12, 13, 14] [])
  (.seq (.cond 14 .skip
  (.exit 0))
  (.seq (.blk 1 (.seq (.reg [] [⟨some 15, none, .mv (.t 13), [], 0⟩,
    ⟨some 5, none, .mv (.k 15), [], 0⟩] false [0, 1, 5, 12, 13] [])
  (.seq (.reg [] [⟨some 16, none, .mv (.t 0), [], 0⟩,
    ⟨some 17, none, .mv (.t 5), [0], 0⟩,
    ⟨some 18, none, .ia 1 none (.k 16) (.k 17), [], 0⟩,
    ⟨some 19, none, .ld false 1 .cp (.k 18), [], 0⟩,
    ⟨some 20, none, .mv (.t 1), [0, 1, 2, 3], 0⟩,
    ⟨some 21, none, .mv (.t 5), [0, 1, 2, 3, 4], 0⟩,
    ⟨some 22, none, .ia 1 none (.k 20) (.k 21), [0, 1, 2, 3], 0⟩,
    ⟨some 23, none, .ld false 1 .cp (.k 22), [0, 1, 2, 3], 0⟩,
    ⟨some 24, none, .bin .neq (.k 19) (.k 23), [], 0⟩] true [0, 1, 12, 13, 24] [])
  (.cond 24 (.seq (.reg [] [⟨some 4, none, .mv (.c (.b false)), [], 0⟩] false [4] [])
  .ret)
  .skip))))
  (.reg [] [⟨some 25, none, .bin .add (.k 13) (.c (.i .i64 1)), [], 0⟩,
    ⟨some 13, none, .mv (.k 25), [], 0⟩] false [0, 1, 12, 13] [])))))))
  (.seq (.reg [] [⟨some 4, none, .mv (.c (.b true)), [], 0⟩] false [4] [])
  .ret))))⟩

def F_slices_EqualFunc_pile_Item_pile_Item_pile_Item_pile_Item : F := ⟨3, [.inl 6],
  (.seq (.reg [.zz 0, .zz 1] [⟨some 6, none, .mv (.c (.b false)), [], 0⟩] false [0, 1, 2] [])
  (.seq (.seq (.reg [] [⟨some 10, none, .mv (.t 0), [], 0⟩,
    ⟨some 11, none, .len false (.k 10), [], 0⟩,
    ⟨some 12, none, .mv (.t 1), [], 0⟩,
    ⟨some 13, none, .len false (.k 12), [], 0⟩,
    ⟨some 14, none, .bin .neq (.k 11) (.k 13), [], 0⟩] false [0, 1, 2, 14] [])
  (.cond 14 (.seq (.reg [] [⟨some 6, none, .mv (.c (.b false)), [], 0⟩] false [6] [])
  .ret)
  .skip))
  (.seq (.seq (.reg [] [⟨some 15, none, .mv (.k 0), [], 0⟩,
    ⟨some 16, none, .len false (.t 15), [], 0⟩,
    ⟨some 17, none, .mv (.c (.i .i64 0)), [], 0⟩] false [1, 2, 15, 16, 17] [])
  (.blk 0 (.loop (.seq (.reg [] [⟨some 18, none, .bin .lss (.t 17) (.t 16), [], 0⟩] false [1, 2, 15, 16, 17, 18] [])
  (.seq (.cond 18 .skip
  (.exit 0))
  (.seq (.blk 1 (.seq (.reg [] [⟨some 19, none, .mv (.t 17), [], 0⟩,
    ⟨some 20, none, .ia 1 none (.t 15) (.t 17), [], 0⟩,
    ⟨some 21, none, .ld false 1 .cp (.k 20), [], 0⟩,
    ⟨some 7, none, .mv (.k 19), [], 0⟩,
    ⟨some 8, none, .mv (.k 21), [], 0⟩] false [1, 2, 7, 8, 15, 16, 17] [])
  (.seq (.reg [] [⟨some 22, none, .mv (.t 1), [], 0⟩,
    ⟨some 23, none, .mv (.k 7), [], 0⟩,
    ⟨some 24, none, .ia 1 none (.k 22) (.k 23), [], 0⟩,
    ⟨some 25, none, .ld false 1 .cp (.k 24), [], 0⟩,
    ⟨some 9, none, .mv (.k 25), [], 0⟩] false [1, 2, 8, 9, 15, 16, 17] [])
  (.seq (.reg [] [⟨some 26, none, .mv (.t 2), [], 0⟩,
    ⟨some 27, none, .mv (.k 8), [], 0⟩,
    ⟨some 28, none, .mv (.k 9), [], 0⟩,
    ⟨some 29, none, .callv (.k 26) [.k 27, .k 28], [], 0⟩,
    ⟨some 30, none, .un .not (.k 29), [], 0⟩] false [1, 2, 15, 16, 17, 30] [])
  (.cond 30 (.seq (.reg [] [⟨some 6, none, .mv (.c (.b false)), [], 0⟩] false [6] [])
  .ret)
  .skip)))))
  (.reg [] [⟨some 31, none, .bin .add (.k 17) (.c (.i .i64 1)), [], 0⟩,
    ⟨some 17, none, .mv (.k 31), [], 0⟩] false [1, 2, 15, 16, 17] [])))))))
  (.seq (.reg [] [⟨some 6, none, .mv (.c (.b true)), [], 0⟩] false [6] [])
  .ret))))⟩

def F_image_Image_Same_1 : F := ⟨2, [.inl 4],
  (.seq (.reg [.zz 0, .zz 1] [⟨some 4, none, .mv (.c (.b false)), [], 0⟩] false [0, 1] [])
  (.seq (.reg [] [⟨some 5, none, .mv (.k 0), [], 2⟩,
    ⟨some 6, none, .mv (.k 1), [], 2⟩,
    ⟨some 7, none, .call n_slices_EqualFunc_pile_Item_pile_Item_pile_Item_pile_Item_1 [.k 5, .k 6, .c (.fn n_image_Image_Same_1_1 [])], [], 0⟩,
    ⟨some 4, none, .mv (.k 7), [], 0⟩] false [4] [])
  .ret))⟩

def F_slices_EqualFunc_pile_Item_pile_Item_pile_Item_pile_Item_1 : F := ⟨3, [.inl 6],
  (.seq (.reg [.zz 0, .zz 1] [⟨some 6, none, .mv (.c (.b false)), [], 0⟩] false [0, 1, 2] [])
  (.seq (.seq (.reg [] [⟨some 10, none, .mv (.t 0), [], 0⟩,
    ⟨some 11, none, .len false (.k 10), [], 0⟩,
    ⟨some 12, none, .mv (.t 1), [], 0⟩,
    ⟨some 13, none, .len false (.k 12), [], 0⟩,
    ⟨some 14, none, .bin .neq (.k 11) (.k 13), [], 0⟩] false [0, 1, 2, 14] [])
  (.cond 14 (.seq (.reg [] [⟨some 6, none, .mv (.c (.b false)), [], 0⟩] false [6] [])
  .ret)
  .skip))
  (.seq (.seq (.reg [] [⟨some 15, none, .mv (.k 0), [], 0⟩,
    ⟨some 16, none, .len false (.t 15), [], 0⟩,
    ⟨some 17, none, .mv (.c (.i .i64 0)), [], 0⟩] false [1, 2, 15, 16, 17] [])
  (.blk 0 (.loop (.seq (.reg [] [⟨some 18, none, .bin .lss (.t 17) (.t 16), [], 0⟩] false [1, 2, 15, 16, 17, 18] [])
  (.seq (.cond 18 .skip
  (.exit 0))
  (.seq (.blk 1 (.seq (.reg [] [⟨some 19, none, .mv (.t 17), [], 0⟩,
    ⟨some 20, none, .ia 2 none (.t 15) (.t 17), [], 0⟩,
    ⟨some 21, none, .ld true 2 .cp (.k 20), [], 0⟩,
    ⟨some 8, none, .al ([.f .f64 0, .i .i64 0]), [], 0⟩,
    ⟨some 7, none, .mv (.k 19), [], 0⟩,
    ⟨none, none, .st 2 (.t 8) (.k 21), [], 0⟩] false [1, 2, 7, 8, 15, 16, 17] [8])
  (.seq (.reg [] [⟨some 22, none, .mv (.t 1), [], 0⟩,
    ⟨some 23, none, .mv (.k 7), [], 0⟩,
    ⟨some 24, none, .ia 2 none (.k 22) (.k 23), [], 0⟩,
    ⟨some 25, none, .ld true 2 .cp (.k 24), [], 0⟩,
    ⟨some 9, none, .al ([.f .f64 0, .i .i64 0]), [], 0⟩,
    ⟨none, none, .st 2 (.t 9) (.k 25), [], 0⟩] false [1, 2, 8, 9, 15, 16, 17] [8, 9])
  (.seq (.reg [] [⟨some 26, none, .mv (.t 2), [], 0⟩,
    ⟨some 27, none, .ld true 2 .cp (.k 8), [], 0⟩,
    ⟨some 28, none, .ld true 2 .cp (.k 9), [], 0⟩,
    ⟨some 29, none, .callv (.k 26) [.k 27, .k 28], [], 0⟩,
    ⟨some 30, none, .un .not (.k 29), [], 0⟩] false [1, 2, 15, 16, 17, 30] [])
  (.cond 30 (.seq (.reg [] [⟨some 6, none, .mv (.c (.b false)), [], 0⟩] false [6] [])
  .ret)
  .skip)))))
  (.reg [] [⟨some 31, none, .bin .add (.k 17) (.c (.i .i64 1)), [], 0⟩,
    ⟨some 17, none, .mv (.k 31), [], 0⟩] false [1, 2, 15, 16, 17] [])))))))
  (.seq (.reg [] [⟨some 6, none, .mv (.c (.b true)), [], 0⟩] false [6] [])
  .ret))))⟩

def F_image_Image_Same_1_1 : F := ⟨2, [.inl 4],
  (.seq (.reg [] [⟨some 2, none, .bx (.k 0), [], 0⟩,
    ⟨some 3, none, .bx (.k 1), [], 0⟩,
    ⟨some 4, none, .mv (.c (.b false)), [], 0⟩] false [2, 3] [2, 3])
  (.seq (.reg [] [⟨some 5, none, .ld true 2 .cp (.k 2), [], 0⟩,
    ⟨some 6, none, .ld true 2 .cp (.k 3), [], 0⟩,
    ⟨some 7, none, .call n_pile_Item_Cmp [.k 5, .k 6], [], 0⟩,
    ⟨some 8, none, .bin .eql (.k 7) (.c (.i .i64 0)), [], 0⟩,
    ⟨some 4, none, .mv (.k 8), [], 0⟩] false [4] [])
  .ret))⟩

def F_pile_Item_Cmp : F := ⟨2, [.inl 4],
  (.seq (.reg [] [⟨some 2, none, .bx (.k 0), [], 0⟩,
    ⟨some 3, none, .bx (.k 1), [], 0⟩,
    ⟨some 4, none, .mv (.c (.i .i64 0)), [], 0⟩] false [2, 3] [2, 3])
  (.seq (.seq (.reg [] [⟨some 6, none, .fa 0 (.t 2), [], 0⟩,
    ⟨some 7, none, .ld false 1 .cp (.k 6), [], 0⟩,
    ⟨some 8, none, .fa 0 (.t 3), [], 0⟩,
    ⟨some 9, none, .ld false 1 .cp (.k 8), [], 0⟩,
    ⟨some 10, none, .call n_real_Cmp [.k 7, .k 9], [], 0⟩,
    ⟨some 5, none, .mv (.k 10), [], 0⟩] false [2, 3, 5] [2, 3])
  (.seq (.reg [] [⟨some 11, none, .mv (.t 5), [], 0⟩,
    ⟨some 12, none, .bin .neq (.k 11) (.c (.i .i64 0)), [], 0⟩] false [2, 3, 5, 12] [2, 3])
  (.cond 12 (.seq (.reg [] [⟨some 13, none, .mv (.k 5), [], 0⟩,
    ⟨some 4, none, .mv (.k 13), [], 0⟩] false [4] [])
  .ret)
  .skip)))
  (.seq (.blk 0 (.seq (.reg [] [⟨some 15, none, .fa 1 (.t 2), [], 0⟩,
    ⟨some 16, none, .ld false 1 .cp (.k 15), [], 0⟩,
    ⟨some 17, none, .fa 1 (.t 3), [], 0⟩,
    ⟨some 18, none, .ld false 1 .cp (.k 17), [], 0⟩,
    ⟨some 19, none, .bin .lss (.k 16) (.k 18), [], 0⟩,
    ⟨some 14, none, .mv (.k 19), [], 0⟩] false [2, 3, 14] [2, 3])
  (.cond 14 (.seq (.reg [] [⟨some 4, none, .mv (.c (.i .i64 (-1))), [], 0⟩] false [4] [])
  .ret)
  (.seq (.reg [] [⟨some 21, none, .fa 1 (.k 2), [], 0⟩,
    ⟨some 22, none, .ld false 1 .cp (.k 21), [], 0⟩,
    ⟨some 23, none, .fa 1 (.k 3), [], 0⟩,
    ⟨some 24, none, .ld false 1 .cp (.k 23), [], 0⟩,
    ⟨some 25, none, .bin .gtr (.k 22) (.k 24), [], 0⟩,
    ⟨some 20, none, .mv (.k 25), [], 0⟩] false [20] [])
  (.cond 20 (.seq (.reg [] [⟨some 4, none, .mv (.c (.i .i64 1)), [], 0⟩] false [4] [])
  .ret)
  .skip)))))
  (.seq (.reg [] [⟨some 4, none, .mv (.c (.i .i64 0)), [], 0⟩] false [4] [])
  .ret))))⟩

def F_c_ref01_Num2 : F := ⟨1, [.inl 2],
  (.seq (.reg [] [⟨some 2, none, .mv (.c (.s ⟨#[]⟩)), [], 0⟩] false [0] [])
  (.seq (.reg [] [⟨some 4, none, .bs 1 0 (.i .u8 0) [], [], 1⟩,
    ⟨some 3, none, .mv (.k 4), [], 0⟩] false [0, 3] [])
  (.seq (.blk 0 (.loop (.seq (.seq (.reg [] [⟨some 5, none, .mv (.t 0), [], 0⟩,
    ⟨some 6, none, .bin .geq (.k 5) (.c (.i .u64 128)), [], 0⟩] false [0, 3, 6] [])
  (.cond 6 .skip
  (.exit 0)))
  (.blk 1 (.seq (.reg [] [⟨some 7, none, .mv (.k 3), [], 0⟩,
    ⟨some 8, none, .mv (.t 0), [], 0⟩,
    ⟨some 9, none, .bin .rem (.k 8) (.c (.i .u64 128)), [], 0⟩,
    ⟨some 10, none, .bin .add (.k 9) (.c (.i .u64 128)), [], 0⟩,
    ⟨some 11, none, .cv (.int .u8) (.k 10), [], 0⟩,
    ⟨some 12, none, .bs 1 1 (.i .u8 0) [(0, .k 11)], [], 0⟩,
    ⟨some 13, none, .app 1 1 (.k 7) (.k 12), [], 1⟩,
    ⟨some 3, none, .mv (.k 13), [], 0⟩] false [0, 3] [])
  (.reg [] [⟨some 14, none, .mv (.k 0), [], 0⟩,
    ⟨some 15, none, .bin .quo (.k 14) (.c (.i .u64 128)), [], 0⟩,
    ⟨some 0, none, .mv (.k 15), [], 0⟩] false [0, 3] []))))))
  (.seq (.reg [] [⟨some 16, none, .mv (.k 3), [], 0⟩,
    ⟨some 17, none, .mv (.k 0), [], 0⟩,
    ⟨some 18, none, .cv (.int .u8) (.k 17), [], 0⟩,
    ⟨some 19, none, .bs 1 1 (.i .u8 0) [(0, .k 18)], [], 0⟩,
    ⟨some 20, none, .app 1 1 (.k 16) (.k 19), [], 1⟩,
    ⟨some 21, none, .cv .str (.k 20), [], 0⟩,
    ⟨some 2, none, .mv (.k 21), [], 0⟩] false [2] [])
  .ret))))⟩

def F_octet_Num : F := ⟨2, [.inl 4],
  (.seq (.reg [] [⟨some 4, none, .mv (.c (.l .o 1 [])), [], 0⟩] false [0, 1] [])
  (.seq (.blk 0 (.loop (.seq (.seq (.reg [] [⟨some 5, none, .mv (.t 1), [], 0⟩,
    ⟨some 6, none, .bin .geq (.k 5) (.c (.i .u64 128)), [], 0⟩] false [0, 1, 6] [])
  (.cond 6 .skip
  (.exit 0)))
  (.blk 1 (.seq (.reg [] [⟨some 7, none, .mv (.k 0), [], 0⟩,
    ⟨some 8, none, .mv (.t 1), [], 0⟩,
    ⟨some 9, none, .cv (.int .u8) (.k 8), [], 0⟩,
    ⟨some 10, none, .bin .or (.k 9) (.c (.i .u8 128)), [], 0⟩,
    ⟨some 11, none, .bs 1 1 (.i .u8 0) [(0, .k 10)], [], 0⟩,
    ⟨some 12, none, .app 1 1 (.k 7) (.k 11), [], 1⟩,
    ⟨some 0, none, .mv (.k 12), [], 0⟩] false [0, 1] [])
  (.reg [] [⟨some 13, none, .mv (.k 1), [], 0⟩,
    ⟨some 14, none, .bin .shr (.k 13) (.c (.i .u64 7)), [], 0⟩,
    ⟨some 1, none, .mv (.k 14), [], 0⟩] false [0, 1] []))))))
  (.seq (.reg [] [⟨some 15, none, .mv (.k 0), [], 0⟩,
    ⟨some 16, none, .mv (.k 1), [], 0⟩,
    ⟨some 17, none, .cv (.int .u8) (.k 16), [], 0⟩,
    ⟨some 18, none, .bs 1 1 (.i .u8 0) [(0, .k 17)], [], 0⟩,
    ⟨some 19, none, .app 1 1 (.k 15) (.k 18), [], 1⟩,
    ⟨some 4, none, .mv (.k 19), [], 0⟩] false [4] [])
  .ret)))⟩

def F_octet_Int : F := ⟨2, [.inl 4],
  (.seq (.reg [] [⟨some 4, none, .mv (.c (.l .o 1 [])), [], 0⟩] false [0, 1] [])
  (.seq (.reg [] [⟨some 5, none, .mv (.k 0), [], 0⟩,
    ⟨some 6, none, .mv (.t 1), [], 0⟩,
    ⟨some 7, none, .cv (.int .u64) (.k 6), [], 0⟩,
    ⟨some 8, none, .bin .shl (.k 7) (.c (.i .u64 1)), [], 0⟩,
    ⟨some 9, none, .mv (.k 1), [], 0⟩,
    ⟨some 10, none, .bin .shr (.k 9) (.c (.i .u64 63)), [], 0⟩,
    ⟨some 11, none, .cv (.int .u64) (.k 10), [], 0⟩,
    ⟨some 12, none, .bin .xor (.k 8) (.k 11), [], 0⟩,
    ⟨some 13, none, .call n_octet_Num [.k 5, .k 12], [], 0⟩,
    ⟨some 4, none, .mv (.k 13), [], 0⟩] false [4] [])
  .ret))⟩

def F_octet_Long : F := ⟨2, [.inl 4],
  (.seq (.reg [] [⟨some 4, none, .mv (.c (.l .o 1 [])), [], 0⟩] false [0, 1] [])
  (.seq (.reg [] [⟨some 5, none, .mv (.k 0), [], 0⟩,
    ⟨some 6, none, .mv (.k 1), [], 0⟩,
    ⟨some 7, none, .call n_octet_fixed_uint64 [.k 5, .k 6, .c (.i .i64 8)], [], 0⟩,
    ⟨some 4, none, .mv (.k 7), [], 0⟩] false [4] [])
  .ret))⟩

def F_real_Key : F := ⟨1, [.inl 2],
  (.seq (.reg [] [⟨some 2, none, .mv (.c (.i .u64 0)), [], 0⟩] false [0] [])
  (.seq (.reg [] [⟨some 4, none, .mv (.k 0), [], 0⟩,
    ⟨some 5, none, .call n_real_Canon [.k 4], [], 0⟩,
    ⟨some 6, none, .bits (.k 5), [], 0⟩,
    ⟨some 3, none, .mv (.k 6), [], 0⟩] false [3] [])
  (.seq (.seq (.reg [] [⟨some 7, none, .mv (.t 3), [], 0⟩,
    ⟨some 8, none, .bin .and (.k 7) (.c (.i .u64 9223372036854775808)), [], 0⟩,
    ⟨some 9, none, .bin .neq (.k 8) (.c (.i .u64 0)), [], 0⟩] false [3, 9] [])
  (.cond 9 (.seq (.reg [] [⟨some 10, none, .mv (.k 3), [], 0⟩,
    ⟨some 11, none, .un .xor (.k 10), [], 0⟩,
    ⟨some 2, none, .mv (.k 11), [], 0⟩] false [2] [])
  .ret)
  .skip))
  (.seq (.reg [] [⟨some 12, none, .mv (.k 3), [], 0⟩,
    ⟨some 13, none, .bin .or (.k 12) (.c (.i .u64 9223372036854775808)), [], 0⟩,
    ⟨some 2, none, .mv (.k 13), [], 0⟩] false [2] [])
  .ret))))⟩

def F_c_ref01_Fixed : F := ⟨2, [.inl 4],
  (.seq (.reg [] [⟨some 4, none, .mv (.c (.s ⟨#[]⟩)), [], 0⟩] false [0, 1] [])
  (.seq (.reg [] [⟨some 7, none, .bs 1 0 (.i .u8 0) [], [], 1⟩,
    ⟨some 5, none, .mv (.k 7), [], 0⟩] false [0, 1, 5] [])
  (.seq (.seq (.reg [] [⟨some 6, none, .mv (.c (.i .i64 0)), [], 0⟩] false [0, 1, 5, 6] [])
  (.blk 0 (.loop (.seq (.seq (.reg [] [⟨some 8, none, .mv (.t 6), [], 0⟩,
    ⟨some 9, none, .mv (.t 1), [], 0⟩,
    ⟨some 10, none, .bin .lss (.k 8) (.k 9), [], 0⟩] false [0, 1, 5, 6, 10] [])
  (.cond 10 .skip
  (.exit 0)))
  (.seq (.blk 1 (.seq (.reg [] [⟨some 13, none, .mv (.k 5), [], 0⟩,
    ⟨some 14, none, .mv (.t 0), [], 0⟩,
    ⟨some 15, none, .bin .rem (.k 14) (.c (.i .u64 256)), [], 0⟩,
    ⟨some 16, none, .cv (.int .u8) (.k 15), [], 0⟩,
    ⟨some 17, none, .bs 1 1 (.i .u8 0) [(0, .k 16)], [], 0⟩,
    ⟨some 18, none, .app 1 1 (.k 13) (.k 17), [], 1⟩,
    ⟨some 5, none, .mv (.k 18), [], 0⟩] false [0, 1, 5, 6] [])
  (.reg [] [⟨some 19, none, .mv (.k 0), [], 0⟩,
    ⟨some 20, none, .bin .quo (.k 19) (.c (.i .u64 256)), [], 0⟩,
    ⟨some 0, none, .mv (.k 20), [], 0⟩] false [0, 1, 5, 6] [])))
  (.reg [] [⟨some 11, none, .mv (.k 6), [], 0⟩,
    ⟨some 12, none, .bin .add (.k 11) (.c (.i .i64 1)), [], 0⟩,
    ⟨some 6, none, .mv (.k 12), [], 0⟩] false [0, 1, 5, 6] []))))))
  (.seq (.reg [] [⟨some 21, none, .mv (.k 5), [], 0⟩,
    ⟨some 22, none, .cv .str (.k 21), [], 0⟩,
    ⟨some 4, none, .mv (.k 22), [], 0⟩] false [4] [])
  .ret))))⟩

def F_c_ref03_Key : F := ⟨1, [.inl 2],
  (.seq (.reg [] [⟨some 2, none, .mv (.c (.i .u64 0)), [], 0⟩] false [0] [])
  (.seq (.reg [] [⟨some 3, none, .mv (.k 0), [], 0⟩,
    ⟨some 4, none, .call n_c_ref03_Bits [.k 3], [], 0⟩,
    ⟨some 0, none, .mv (.k 4), [], 0⟩] false [0] [])
  (.seq (.seq (.reg [] [⟨some 5, none, .mv (.t 0), [], 0⟩,
    ⟨some 6, none, .bin .geq (.k 5) (.c (.i .u64 9223372036854775808)), [], 0⟩] false [0, 6] [])
  (.cond 6 (.seq (.reg [] [⟨some 7, none, .mv (.k 0), [], 0⟩,
    ⟨some 8, none, .bin .sub (.c (.i .u64 18446744073709551615)) (.k 7), [], 0⟩,
    ⟨some 2, none, .mv (.k 8), [], 0⟩] false [2] [])
  .ret)
  .skip))
  (.seq (.reg [] [⟨some 9, none, .mv (.k 0), [], 0⟩,
    ⟨some 10, none, .bin .add (.k 9) (.c (.i .u64 9223372036854775808)), [], 0⟩,
    ⟨some 2, none, .mv (.k 10), [], 0⟩] false [2] [])
  .ret))))⟩

def F_c_ref01_Int : F := ⟨1, [.inl 2],
  (.seq (.reg [] [⟨some 2, none, .mv (.c (.s ⟨#[]⟩)), [], 0⟩] false [0] [])
  (.seq (.seq (.reg [] [⟨some 3, none, .mv (.t 0), [], 0⟩,
    ⟨some 4, none, .bin .geq (.k 3) (.c (.i .i64 0)), [], 0⟩] false [0, 4] [])
  (.cond 4 (.seq (.reg [] [⟨some 5, none, .mv (.k 0), [], 0⟩,
    ⟨some 6, none, .cv (.int .u64) (.k 5), [], 0⟩,
    ⟨some 7, none, .bin .mul (.k 6) (.c (.i .u64 2)), [], 0⟩,
    ⟨some 8, none, .call n_c_ref01_Num2 [.k 7], [], 0⟩,
    ⟨some 2, none, .mv (.k 8), [], 0⟩] false [2] [])
  .ret)
  .skip))
  (.seq (.reg [] [⟨some 9, none, .mv (.k 0), [], 0⟩,
    ⟨some 10, none, .bin .add (.k 9) (.c (.i .i64 1)), [], 0⟩,
    ⟨some 11, none, .un .neg (.k 10), [], 0⟩,
    ⟨some 12, none, .cv (.int .u64) (.k 11), [], 0⟩,
    ⟨some 13, none, .bin .mul (.k 12) (.c (.i .u64 2)), [], 0⟩,
    ⟨some 14, none, .bin .add (.k 13) (.c (.i .u64 1)), [], 0⟩,
    ⟨some 15, none, .call n_c_ref01_Num2 [.k 14], [], 0⟩,
    ⟨some 2, none, .mv (.k 15), [], 0⟩] false [2] [])
  .ret)))⟩

end Go.AM
